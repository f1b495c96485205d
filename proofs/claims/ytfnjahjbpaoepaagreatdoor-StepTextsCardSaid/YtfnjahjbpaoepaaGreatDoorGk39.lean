import Derived.Test.YtfnjahjbpaoepaaGreatDoorGk33
import Derived.MapKept
import Derived.Maps.RangeRun
import Derived.Sort.Grow
set_option linter.all false
namespace Go.Gk
def zeroX(ks:List Nat)(i:TI):List G:=i.zero.cells.toList.mapIdx fun j c=>.d (bif ks.contains j then .v c else nilD c)
def G.forg(id:Nat)(g:G):G:=bif g.has id then .junk else g
def Ob.forg(id:Nat):Ob→Ob
 | .box t gs=>.box t (gs.map (G.forg id))
 | o=>o
section
variable{P:Program}{Γ:TypeId→Option TI}{F N:Nat}{Q:GPost}{fr fr':Fr}{hp hp':List Ob}{ks:List Kt}
variable{α:Type}{enc:α→List D}{ops:Array Oper}{rest:List Oper}{g:G}
variable{d:Tmp}{op:Op}{ty:TypeId}{pos:String}{after:Array Edge}{gd':Option (Nat×Bool)}
theorem Kkq{Z:Env}{w:World}{M:Mp}{ks:List Nat}{i:TI}(hz:(i.zero.cells.toList.all (·.oneCell'))=true)(j:Nat)(g:G)(hj:(zeroX ks i)[j]?=some g) :
  ∃ c:Value,i.zero.cells[j]?=some c∧c.oneCell'=true∧VR w (ownZ Z hp M) M g c:=by
 simp only[zeroX,List.getElem?_mapIdx] at hj
 obtain⟨c,hc,rfl⟩:=oMs.1 hj
 have h1:=lAe.1 hz c (mOg hc)
 refine⟨c,by simpa using hc,h1,.d ?_⟩
 cases ks.contains j with
 | true=>exact .v c h1
 | false=>exact Kqa c h1
theorem Kkr(hΓ:TOK P Γ)(ks:List Nat){t:TypeId}{fs:Array Field}{i1:TI}{parts:Array (Nat×Operand)}{pg:List (Nat×G)}{gs:List G}(h1:Γ t=some i1)(h1':i1.desc=.struct fs)(hfs:(fs.toList.all fun f=>(Γ f.type).isSome)=true)
  (hz:(i1.zero.cells.toList.all (·.oneCell'))=true) (hp':evParts fr parts.toList=some pg) (hf:fillG (placesG Γ fs) (zeroX ks i1) pg=some gs)
  : OpP P N ⟨some d,.build t parts,ty,pos,after,gd'⟩ fr hp (.agg gs):=by
 intro Z w M a hr
 obtain⟨u1,inf,e1,e2,e3,e4⟩:=hΓ t _ h1
 rw[h1'] at u1
 obtain⟨r,p1,p2⟩:=Keo (P:=P) (w:=w) hΓ fs.toList fun f hf=>lAe.1 hfs f hf
 have hpl:(fun i=>(r.toArray)[i]?)=placesG Γ fs:=by
  funext i
  rw[List.getElem?_toArray,p2 i]
  simp[placesG]
 have hpl':(fun i=>r[i]?)=placesG Γ fs:=by rw[←hpl];funext i;simp
 obtain⟨cs',r1,r2,r3,r4⟩:=Kej (place:=placesG Γ fs) (cs:=i1.zero.cells) hr parts.toList hp' hf (by simp[zeroX]) (fun j g hj=>Kkq hz j g hj)
 refine⟨.agg cs',?_,.agg r2 fun j g v hg hv=>?_⟩
 ·have hm:(fs.mapM fun f=>(Prod.mk f.offset <$> sizeOf f.type:Sem (Nat×Nat))).run P w=.ok r.toArray w:=by
   rw[Array.mapM_eq_mapM_toList]
   simp[p1]
  simp[execOp,Instr.build,zeroValue,typeInfo,e1,e4,run_underlying u1,hm]
  rw[←hpl'] at r1
  simp[r1]
 ·obtain⟨v',f1,f2,f3⟩:=r4 j g hg
  rw[hv] at f1
  cases f1
  exact f3
theorem Kks{Z:Env}{w:World}{M:Mp}(te:TypeId)(sz:Nat)(hr:RelH Z hp M w) :
  RelH Z (hp++[.row te sz 0 []]) (M.app [none]) w∧Stp w (own hp M) w (own (hp++[.row te sz 0 []]) (M.app [none]))∧Agr hp.length M (M.app [none]):=by
 have hM:∀ i,i<M.l.length→(M.app [none]).l[i]?=M.l[i]?:=fun i hi=>gAl hi
 have hob:∀ b,obOwn (hp++[.row te sz 0 []]) (M.app [none]) b→obOwn hp M b:=by
  rintro b ⟨i,o,c,h1,h2,h3⟩
  rcases Krk h3 with⟨hi,h4⟩ | ⟨hi,h4⟩
  ·rw[gAl (by rw[←hr.len];exact hi)] at h1
   exact⟨i,o,c,h1,h2,h4⟩
  ·cases h4
 have hown:∀ b,own (hp++[.row te sz 0 []]) (M.app [none]) b→own hp M b:=fun b h=>Kpe h (hob b) (fun g=>g.of (Kpg rfl)) rfl
 have hst:Stp w (own hp M) w (own (hp++[.row te sz 0 []]) (M.app [none])):=.still (fun b _ h=>hown b h) rfl fun g=>g.of (Kpg rfl)
 refine⟨⟨by simp[hr.len],fun i o m h1 h2=>?_,fun b hb hz=>hr.apart b (hown b hb) hz,hr.old,hr.amb,fun i j oi oj b c c' hi hj li lj mi mj=>?_,hr.bags.mono rfl (Nat.le_refl _) (fun b _=>hob b) (Kpg rfl)⟩,hst,⟨by simp[hr.len],fun i hi=>hM i (by rw[hr.len];exact hi)⟩⟩
 ·rcases Krk h1 with⟨hi,h3⟩ | ⟨hi,rfl⟩
  ·rw[hM i (by rw[hr.len];exact hi)] at h2
   have:=hr.obj i o m h3 h2
   exact this.move (k:=M.l.length) (Kpj Z hst) hM this.bel (fun _ _ _ _=>rfl) (fun _ _ _ _=>⟨rfl,fun _ _ _=>rfl⟩)
  ·subst hi
   rw[←hr.len] at h2
   rcases Krk h2 with⟨hi,_⟩ | ⟨_,h⟩
   ·omega
   ·subst h;exact⟨rfl,rfl⟩
 ·rcases Krk mi with⟨hi1,hi2⟩ | ⟨_,hi2⟩
  ·rcases Krk mj with⟨hj1,hj2⟩ | ⟨_,hj2⟩
   ·rw[gAl (by rw[←hr.len];exact hi1)] at hi
    rw[gAl (by rw[←hr.len];exact hj1)] at hj
    exact hr.inj i j oi oj b c c' hi hj li lj hi2 hj2
   ·cases hj2
  ·cases hi2
theorem VR.forg{w:World}{O:Ow}{M:Mp}(id:Nat){g:G}{v:Value}(h:VR w O M g v):VR w O M (g.forg id) v:=by
 unfold G.forg
 cases g.has id with
 | true=>exact .junk v
 | false=>exact h
theorem Kkt{Z:Env}{w:World}{M:Mp}(id:Nat)(hr:RelH Z hp M w) :
  RelH Z (hp.map (Ob.forg id)) M w∧Stp w (own hp M) w (own (hp.map (Ob.forg id)) M):=by
 have lv:∀ o:Ob,(o.forg id).live=o.live:=fun o=>by cases o<;>rfl
 have hold:∀ (i:Nat) (o:Ob),(hp.map (Ob.forg id))[i]?=some o→∃ o0,hp[i]?=some o0∧o=o0.forg id:=fun i o h=>by
  rw[gMp] at h
  obtain⟨o0,h1,h2⟩:=oMs.1 h
  exact⟨o0,h1,h2.symm⟩
 have hobo:∀ b,obOwn (hp.map (Ob.forg id)) M b→obOwn hp M b:=by
  rintro b ⟨i,o,c,h1,h2,h3⟩
  obtain⟨o0,e1,rfl⟩:=hold i o h1
  exact⟨i,o0,c,e1,by rw[←lv o0];exact h2,h3⟩
 have hbg:∀ (i:Nat) (al:List Bool) (ar:List Ar) (lt:List (Nat×Nat)),(hp.map (Ob.forg id))[i]?=some (.bag al ar lt)→hp[i]?=some (.bag al ar lt):=Kph fun o al ar lt h=>by cases o<;>first | exact h | cases h
 have hown:∀ b,own (hp.map (Ob.forg id)) M b→own hp M b:=fun b h=>Kpe h (hobo b) (fun g=>g.of hbg) rfl
 have hst:Stp w (own hp M) w (own (hp.map (Ob.forg id)) M):=.still (fun b _ h=>hown b h) rfl fun g=>g.of hbg
 refine⟨⟨by simp[hr.len],fun i o m h1 h2=>?_,fun b hb hz=>hr.apart b (hown b hb) hz,hr.old,hr.amb,fun i j oi oj b c c' hi hj li lj mi mj=>?_,hr.bags.mono rfl (Nat.le_refl _) (fun b _=>hobo b) hbg⟩,hst⟩
 ·obtain⟨o0,e1,rfl⟩:=hold i o h1
  have hob:=hr.obj i o0 m e1 h2
  have hob':ObR w (ownZ Z (hp.map (Ob.forg id)) M) M o0 m:=hob.move (k:=M.l.length) (Kpj Z hst) (fun _ _=>rfl) hob.bel (fun _ _ _ _=>rfl) (fun _ _ _ _=>⟨rfl,fun _ _ _=>rfl⟩)
  cases o0 with
  | box tb gs=>
   match m,hob' with
   | some (b,c),⟨cs,e1,e2,hc⟩=>
    refine⟨cs,e1,by simpa using e2,fun j g hg=>?_⟩
    rw[gMp] at hg
    obtain⟨g0,hg0,rfl⟩:=oMs.1 hg
    obtain⟨v,f1,f2,f3⟩:=hc j g0 hg0
    exact⟨v,f1,f2,f3.forg id⟩
  | _=>exact hob'
 ·obtain⟨o1,e1,rfl⟩:=hold i oi hi
  obtain⟨o2,e2,rfl⟩:=hold j oj hj
  exact hr.inj i j o1 o2 b c c' e1 e2 (by rw[←lv o1];exact li) (by rw[←lv o2];exact lj) mi mj
theorem Kku(id:Nat):∀ Z w M a,Rel Z hp M w fr a N→∃ M',Rel Z (hp.map (Ob.forg id)) M' w fr a N∧Stp w (own hp M) w (own (hp.map (Ob.forg id)) M')∧Agr hp.length M M':=by
 intro Z w M a hr
 obtain⟨h1,h2⟩:=Kkt id hr.heap
 exact⟨M,⟨h1,fun t g h=>let ⟨v,e1,e2⟩:=hr.fr t g h;⟨v,e1,e2.step (Kpj Z h2) (fun _ _=>rfl)⟩,hr.size,hr.defers⟩,h2,⟨Nat.le_of_eq hr.heap.len.symm,fun _ _=>rfl⟩⟩
theorem Kkv{l:List Oper}(id:Nat)(hp2:List Ob)(hhp:hp.map (Ob.forg id)=hp2)(hF:F≤hp.length)(k:EO P F N ops l Q fr hp2):EO P F N ops l Q fr hp:=by
 subst hhp
 exact Kru hF (Kku id) k
end
end Go.Gk
namespace Go.Gk
section
variable{P:Program}{Γ:TypeId→Option TI}{F N:Nat}{Q:GPost}{fr fr':Fr}{hp hp':List Ob}{ks:List Kt}
variable{α:Type}{enc:α→List D}{ops:Array Oper}{rest:List Oper}{g:G}
variable{d:Tmp}{op:Op}{ty:TypeId}{pos:String}{after:Array Edge}{gd:Option (Nat×Bool)}
end
end Go.Gk
namespace Go.Gk
theorem Kkw{α:Type}{l:List α}{j:Nat}{x y:α}(h:l[j]?=some x):(l.set j y)[j]?=some y:=by
 rw[gSs (gEs.1 h).1]
def mGet{K V:Type}[BEq K](m:List (K×V))(k:K):Option V:=(m.find? fun e=>k==e.1).map (·.2)
class KLt (K:Type) where
 lt:K→K→Bool
instance:KLt (List UInt8):=⟨Op.bytesLess⟩
instance:KLt Int:=⟨fun a b=>decide (a<b)⟩
instance(priority:=low){K:Type}:KLt K:=⟨fun _ _=>false⟩
def mIns{K V:Type}[KLt K](k:K)(v:V):List (K×V)→List (K×V)
 | []=>[(k,v)]
 | e :: m=>bif KLt.lt k e.1 then(k,v) :: e :: m else e :: mIns k v m
def mSet{K V:Type}[BEq K][KLt K](m:List (K×V))(k:K)(v:V):List (K×V):=match m.findIdx? (fun e=>k==e.1) with
 | some i=>m.set i (k,v)
 | none=>mIns k v m
theorem Kkx{K V:Type}[KLt K](k:K)(v:V):∀ m:List (K×V),(mIns k v m).Perm (m++[(k,v)])
 | []=>.refl _
 | e :: m=>by
  simp only[mIns]
  cases KLt.lt k e.1 with
  | true=>exact(List.perm_append_comm (l₁:=[(k,v)]) (l₂:=e :: m))
  | false=>exact(Kkx k v m).cons e
abbrev mObS{K V:Type}(kv:K→Value)(agg:Bool)(enc:V→List D)(m:List (K×V))(st:Option (List (Value×List D)×List Nat×Nat)):Ob:=.map agg (m.map fun e=>(kv e.1,enc e.2)) st
abbrev mOb{K V:Type}(kv:K→Value)(agg:Bool)(enc:V→List D)(m:List (K×V)):Ob:=mObS kv agg enc m none
theorem Kky{α β:Type}(f:α→β){l1 l2:List β}(h:l1.Perm l2):∀ m:List α,l2=m.map f→∃ m':List α,m'.Perm m∧l1=m'.map f:=by
 induction h with
 | nil=>intro m hm;exact⟨m,.refl _,hm⟩
 | cons x _ ih=>
  intro m hm
  cases m with
  | nil=>cases hm
  | cons a m=>
   simp only[List.map_cons,List.cons.injEq] at hm
   obtain⟨m',h1,h2⟩:=ih m hm.2
   exact⟨a :: m',h1.cons a,by simp[h2,hm.1]⟩
 | swap x y l=>
  intro m hm
  match m,hm with
  | a :: b :: m,hm=>
   simp only[List.map_cons,List.cons.injEq] at hm
   exact⟨b :: a :: m,.swap _ _ _,by simp[hm]⟩
 | trans _ _ i1 i2=>
  intro m hm
  obtain⟨m1,h1,h2⟩:=i2 m hm
  obtain⟨m2,h3,h4⟩:=i1 m1 h2
  exact⟨m2,h3.trans h1,h4⟩
abbrev kS(s:List UInt8):Value:=.string ⟨s.toArray⟩
abbrev kI(k:IntKind)(n:Int):Value:=.int k n
structure KeyOk{K:Type}[BEq K](d:TypeDesc)(kv:K→Value):Prop where
 same:∀ a b:K,Instr.sameNow d (kv a) (kv b)=some (a==b)
 bits:∀ a b:K,(a==b)=true→Instr.sameBits 10000 (kv b) (kv a)=true
 key:∀ a:K,MapKept.IsKey d (kv a)
 eq:∀ a b:K,(a==b)=true→a=b
 refl:∀ a:K,(a==a)=true
theorem Kkz:KeyOk (K:=List UInt8) .string kS:=⟨fun a b=>by
  show some ((⟨a.toArray⟩:ByteArray)==⟨b.toArray⟩)=some (a==b)
  refine congrArg some ?_
  show(a.toArray==b.toArray)=(a==b)
  simp,fun a b h=>by
  obtain rfl:a=b:=by simpa using h
  show((⟨a.toArray⟩:ByteArray)==⟨a.toArray⟩)=true
  show(a.toArray==a.toArray)=true
  simp,fun a=>by simp[MapKept.IsKey,kS],fun a b h=>by simpa using h,fun a=>by simp⟩
theorem Kla(k:IntKind):KeyOk (K:=Int) (.int k) (kI k):=⟨fun a b=>by simp[Instr.sameNow,kI],fun a b h=>by
  obtain rfl:a=b:=by simpa using h
  simp[Instr.sameBits,kI],fun a=>by simp[MapKept.IsKey,kI],fun a b h=>by simpa using h,fun a=>by simp⟩
theorem Klb{K V:Type}[BEq K]{d:TypeDesc}{kv:K→Value}(hK:KeyOk d kv)(k:K):∀ (l:List MapEntry) (m:List (K×V)) (i:Nat),l.length=m.length→(∀ (j:Nat) (e:MapEntry) (x:K×V),l[j]?=some e→m[j]?=some x→e.key=kv x.1)→
  Instr.findNow d (kv k) l i=some ((m.findIdx? fun e=>k==e.1).bind fun j=>(l[j]?).map fun e=>(i+j,e.val))
 | [],[],i,_,_=>rfl
 | e :: l,x :: m,i,hl,hk=>by
  have ih:=Klb hK k l m (i+1) (by simpa using hl) fun j e x he hx=>hk (j+1) e x (by simpa using he) (by simpa using hx)
  have h0:=hk 0 e x (by simp) (by simp)
  simp only[Instr.findNow,h0,hK.same,List.findIdx?_cons]
  cases hb:(k==x.1) with
  | true=>simp
  | false=>
   simp only[ih]
   cases m.findIdx? fun e=>k==e.1 with
   | none=>rfl
   | some j=>simp[Nat.add_assoc,Nat.add_comm 1 j]
 | [],_ :: _,_,h,_=>by simp at h
 | _ :: _,[],_,h,_=>by simp at h
def zD(v:Value):List D:=v.cells.toList.map nilD
def isAggV:Value→Bool
 | .agg _=>true
 | _=>false
def dG(agg:Bool)(ds:List D):Option G:=match agg with
 | true=>some (.agg (ds.map G.d))
 | false=>match ds with
  | [d]=>some (.d d)
  | _=>none
theorem DV.vr{w:World}{O:Ow}{M:Mp}{agg:Bool}{ds:List D}{v:Value}{g:G}(h:DV w O agg ds v)(hg:dG agg ds=some g):VR w O M g v:=by
 cases agg with
 | true=>
  obtain⟨cs,rfl,h1,h2⟩:=h
  cases hg
  refine .agg (by simpa using h1) fun j g v hg hv=>?_
  rw[gMp] at hg
  obtain⟨d,hd,rfl⟩:=oMs.1 hg
  exact .d (h2 j d v hd hv)
 | false=>
  obtain⟨d,rfl,h1⟩:=h
  cases hg
  exact .d h1
theorem VR.dv{w:World}{O:Ow}{M:Mp}{agg:Bool}{ds:List D}{v:Value}{g:G}(h:VR w O M g v)(hg:dG agg ds=some g):DV w O agg ds v:=by
 cases agg with
 | true=>
  cases hg
  cases h with
  | agg hl hr=>
   refine⟨_,rfl,by simpa using hl,fun j d u hd hu=>?_⟩
   have:=hr j (.d d) u (by simp[hd]) hu
   cases this
   assumption
 | false=>
  match ds,hg with
  | [x],hg=>
   cases hg
   cases h with
   | d h=>exact⟨x,rfl,h⟩
theorem Klc{w:World}{O:Ow}{v:Value}{agg:Bool}(ha:isAggV v=agg)(h:(v.cells.toList.all (·.oneCell'))=true):DV w O agg (zD v) v:=by
 subst ha
 cases v with
 | agg cs=>
  refine⟨cs,rfl,by simp[zD,Value.cells],fun j d u hd hu=>?_⟩
  simp only[zD,Value.cells,List.getElem?_map] at hd
  obtain⟨c,hc,rfl⟩:=oMs.1 hd
  have:c=u:=by
   have h':cs[j]?=some c:=by simpa using hc
   rw[h'] at hu;exact oSi hu
  subst this
  exact Kqa c (lAe.1 h c (mOg hc))
 | _=>
  refine⟨_,rfl,Kqa _ ?_⟩
  simpa [Value.cells] using h
section
variable{P:Program}{Γ:TypeId→Option TI}{F N:Nat}{Q:GPost}{fr fr':Fr}{hp hp':List Ob}{ks:List Kt}
variable{ops:Array Oper}{rest:List Oper}{g:G}
variable{d:Tmp}{op:Op}{ty:TypeId}{pos:String}{after:Array Edge}{gd:Option (Nat×Bool)}
theorem Kld{Z:Env}{M:Mp}{w:World}(hr:RelH Z hp M w)(o:Ob)(ob:Obj)(c:Nat)
  (ho:∀ (w':World) O',Stp w (ownZ Z hp M) w' O'→w'.heap[w.heap.size]?=some ob→ObR w' O' (M.app [some (w.heap.size,c)]) o (some (w.heap.size,c))) (hog:o.isBag=false:=by rfl) :
  RelH Z (hp++[o]) (M.app [some (w.heap.size,c)]) (w.alloc ob)∧Stp w (own hp M) (w.alloc ob) (own (hp++[o]) (M.app [some (w.heap.size,c)]))∧Agr hp.length M (M.app [some (w.heap.size,c)]):=by
 have hob:∀ b,b<w.heap.size→obOwn (hp++[o]) (M.app [some (w.heap.size,c)]) b→obOwn hp M b:=by
  rintro b hb ⟨i,o',c',h1,h2,h3⟩
  rcases Krk h3 with⟨hi,h4⟩ | ⟨hi,h4⟩
  ·rcases Krk h1 with⟨_,h5⟩ | ⟨hi',_⟩
   ·exact⟨i,o',c',h5,h2,h4⟩
   ·rw[hr.len] at hi;omega
  ·cases h4;omega
 have hst:Stp w (own hp M) (w.alloc ob) (own (hp++[o]) (M.app [some (w.heap.size,c)])):=by
  exact .mk' (by simp) (fun b hb _=>heap_alloc_old w _ hb) (fun b hb h=>Kpe h (hob b hb) (fun g=>g.of (Kpg hog)) rfl) rfl rfl rfl rfl (fun g=>g.of (Kpg hog)) fun x hx _=>heap_alloc_old w _ (hr.bags.tgs x hx).1
 have hM:∀ i,i<M.l.length→(M.app [some (w.heap.size,c)]).l[i]?=M.l[i]?:=fun i hi=>gAl hi
 refine⟨⟨by simp[hr.len],fun i o' m h1 h2=>?_,fun b hb hz=>?_,fun b hb=>?_,hr.amb_stp hst,fun i j oi oj b c1 c2 hi hj li lj mi mj=>?_,hr.bags.mono rfl (by simp) hob (Kpg hog)⟩,hst,⟨by simp[hr.len],fun i hi=>hM i (by rw[hr.len];exact hi)⟩⟩
 ·rcases Krk h1 with⟨hi,h3⟩ | ⟨hi,rfl⟩
  ·have hi':i<M.l.length:=by rw[hr.len];exact hi
   rw[hM i hi'] at h2
   have:=hr.obj i o' m h3 h2
   refine this.move (k:=M.l.length) (Kpj Z hst) hM this.bel (fun b c' e hl=>?_) fun _ _ _ _=>⟨rfl,fun x hx _=>heap_alloc_old w _ (hr.bags.tgs x hx).1⟩
   subst e
   exact heap_alloc_old w _ (hr.block_ob ⟨i,o',c',h3,hl,h2⟩)
  ·subst hi
   rw[←hr.len] at h2
   have:m=some (w.heap.size,c):=by
    rcases Krk h2 with⟨hi,_⟩ | ⟨_,h⟩
    ·omega
    ·exact h.symm
   subst this
   exact ho _ _ (Kpj Z hst) (heap_alloc_new w _)
 ·by_cases hb':b<w.heap.size
  ·exact hr.apart b (hst.own b hb' hb) hz
  ·exact absurd (hr.old b hz) hb'
 ·have:=hr.old b hb;simp;omega
 ·rcases Krk hi with⟨hi1,hi2⟩ | ⟨hi1,hi2⟩
  ·rcases Krk hj with⟨hj1,hj2⟩ | ⟨hj1,hj2⟩
   ·rw[hM i (by rw[hr.len];exact hi1)] at mi
    rw[hM j (by rw[hr.len];exact hj1)] at mj
    exact hr.inj i j oi oj b c1 c2 hi2 hj2 li lj mi mj
   ·subst hj2
    rw[hM i (by rw[hr.len];exact hi1)] at mi
    have:=hr.block_ob ⟨i,oi,c1,hi2,li,mi⟩
    rw[hj1,←hr.len] at mj
    simp at mj
    omega
  ·subst hi2
   rcases Krk hj with⟨hj1,hj2⟩ | ⟨hj1,hj2⟩
   ·rw[hM j (by rw[hr.len];exact hj1)] at mj
    have:=hr.block_ob ⟨j,oj,c2,hj2,lj,mj⟩
    rw[hi1,←hr.len] at mi
    simp at mi
    omega
   ·omega
theorem Kle{Z:Env}{M:Mp}{w:World}(hr:RelH Z hp M w){id b c:Nat}{o o':Ob}{ob':Obj}(ho:hp[id]?=some o)(hl:o.live=true)(hM:M.l[id]?=some (some (b,c)))
  (ho':∀ (w':World),Stp w (ownZ Z hp M) w' (ownZ Z (hp.set id o') M)→w'.heap[b]?=some ob'→ObR w' (ownZ Z (hp.set id o') M) M o' (some (b,c))) (hl':o'.live=true) (hog:o'.isBag=false:=by rfl) :
  RelH Z (hp.set id o') M { w with heap:=w.heap.setIfInBounds b ob' }∧Stp w (own hp M) { w with heap:=w.heap.setIfInBounds b ob' } (own (hp.set id o') M):=by
 have hid:id<hp.length:=(gEs.1 ho).1
 have hb:b<w.heap.size:=hr.block_ob ⟨id,o,c,ho,hl,hM⟩
 have hob:∀ b',obOwn (hp.set id o') M b'→obOwn hp M b':=by
  rintro b' ⟨i,oi,ci,e1,e2,e3⟩
  by_cases hi:i=id
  ·subst hi;exact⟨i,o,ci,ho,hl,e3⟩
  ·rw[gSn (Ne.symm hi)] at e1;exact⟨i,oi,ci,e1,e2,e3⟩
 have hother:∀ k,k≠b→(w.heap.setIfInBounds b ob')[k]?=w.heap[k]?:=fun k hk=>by rw[Array.getElem?_setIfInBounds_ne (Ne.symm hk)]
 have hown:∀ b',own (hp.set id o') M b'→own hp M b':=fun b' h=>Kpe h (hob b') (fun g=>g.of (Kpf hog)) rfl
 have htags:=hr.tags (w':={ w with heap:=w.heap.setIfInBounds b ob' }) ⟨id,o,c,ho,hl,hM⟩ (fun k _ hk=>hother k hk)
 have hst:Stp w (own hp M) { w with heap:=w.heap.setIfInBounds b ob' } (own (hp.set id o') M):=
  .mk' (by simp) (fun b' _ hn=>hother b' fun e=>hn (e▸.inl ⟨id,o,c,ho,hl,hM⟩)) (fun b' _ h=>hown b' h) rfl rfl rfl rfl (fun g=>g.of (Kpf hog)) (hr.bags.ht htags)
 refine⟨⟨by simp[hr.len],fun i oi m e1 e2=>?_,fun b' hb' hz=>hr.apart b' (hown b' hb') hz,fun b' hz=>by have:=hr.old b' hz;simpa using this,hr.amb_stp hst,fun i j oi oj b1 c1 c2 e1 e2 l1 l2 m1 m2=>?_,hr.bags.mono rfl (by simp) (fun b' _=>hob b') (Kpf hog)⟩,hst⟩
 ·by_cases hi:i=id
  ·subst hi
   simp[hid] at e1
   subst e1
   rw[hM] at e2
   cases e2
   exact ho' _ (Kpj Z hst) (by simp[hb])
  ·rw[gSn (Ne.symm hi)] at e1
   have:=hr.obj i oi m e1 e2
   refine this.move (k:=M.l.length) (Kpj Z hst) (fun _ _=>rfl) this.bel (fun b' c' e hl2=>?_) (hr.bags.kp htags rfl e1)
   subst e
   refine hother b' fun e=>hi ?_
   subst e
   exact hr.inj i id oi o b' c' c e1 ho hl2 hl e2 hM
 ·have key:∀ (i:Nat) (oi:Ob),(hp.set id o')[i]?=some oi→oi.live=true→∃ oi':Ob,hp[i]?=some oi'∧oi'.live=true:=fun i oi e1 l1=>by
   by_cases hi:i=id
   ·subst hi;exact⟨o,ho,hl⟩
   ·rw[gSn (Ne.symm hi)] at e1;exact⟨oi,e1,l1⟩
  obtain⟨oi',f1,f2⟩:=key i oi e1 l1
  obtain⟨oj',f3,f4⟩:=key j oj e2 l2
  exact hr.inj i j oi' oj' b1 c1 c2 f1 f3 f2 f4 m1 m2
theorem Klf{t:TypeId}(agg:Bool):OpS P N ⟨some d,.makeMap t none,ty,pos,after,gd⟩ fr hp (.map hp.length) (hp++[.map agg [] none]):=fun Z w M a hr=>by
 obtain⟨r1,r2,r3⟩:=Kld hr.heap (.map agg [] none) (.map #[] 0) 0 (fun w' O' hst hh=>⟨#[],0,[],hh,.refl _,.nil,fun raw h=>(by cases h),rfl,⟨fun i j e e' h=>by simp at h,fun i e h=>by simp at h⟩,fun j k ds h=>by simp at h⟩)
 refine⟨.map (some w.heap.size),_,_,?_,r1,.map (c:=0) ?_,r2,r3⟩
 ·simp[execOp,Instr.makeMap,newObj,Sem.run]
 rw[←hr.heap.len];simp
variable{K V:Type}[BEq K][KLt K]{kv:K→Value}{agg:Bool}{enc:V→List D}
def Apart(kv:K→Value)(m:List (K×V)):Prop:=m.Pairwise fun x y=>kv x.1≠kv y.1
theorem Apart.one:∀ {m:List (K×V)},Apart kv m→∀ {x y:K×V},x∈m→y∈m→kv x.1=kv y.1→x=y
 | z :: m,h,x,y,hx,hy,e=>by
  have h1:=List.pairwise_cons.1 h
  rcases List.mem_cons.1 hx with hx1 | hx1
  ·rcases List.mem_cons.1 hy with hy1 | hy1
   ·rw[hx1,hy1]
   subst hx1;exact absurd e (h1.1 y hy1)
  rcases List.mem_cons.1 hy with hy1 | hy1
  ·subst hy1;exact absurd e.symm (h1.1 x hx1)
  exact Apart.one h1.2 hx1 hy1 e
theorem Klg{dd:TypeDesc}(hK:KeyOk dd kv){m' m:List (K×V)}(hp:m'.Perm m)(ha:Apart kv m')(k:K):mGet m' k=mGet m k:=by
 unfold mGet
 cases h1:m'.find? fun e=>k==e.1 with
 | none=>
  have:m.find? (fun e=>k==e.1)=none:=List.find?_eq_none.2 fun x hx=>List.find?_eq_none.1 h1 x (hp.mem_iff.2 hx)
  rw[this]
 | some x=>
  have hx:=List.mem_of_find?_eq_some h1
  have hkx:=hK.eq k x.1 (List.find?_some (p:=fun e:K×V=>k==e.1) h1)
  cases h2:m.find? fun e=>k==e.1 with
  | none=>exact absurd (List.find?_some (p:=fun e:K×V=>k==e.1) h1) (List.find?_eq_none.1 h2 x (hp.mem_iff.1 hx))
  | some y=>
   have hy:=List.mem_of_find?_eq_some h2
   have hky:=hK.eq k y.1 (List.find?_some (p:=fun e:K×V=>k==e.1) h2)
   rw[ha.one hx (hp.mem_iff.2 hy) (by rw[←hkx,←hky])]
structure MapAt(w:World)(O:Ow)(kv:K→Value)(agg:Bool)(enc:V→List D)(b:Nat)(m m':List (K×V))(st:Option (List (Value×List D)×List Nat×Nat))(ms:Array MapEntry)(cl:Nat):Prop where
 perm:m'.Perm m
 apart:Apart kv m'
 raw:∀ raw,st=some raw→raw=(m'.map (fun e=>(kv e.1,enc e.2)),ms.toList.map (·.born),cl)
 heap:w.heap[b]?=some (.map ms cl)
 size:ms.size=m'.length
 born:Born ms cl
 get:∀ (j:Nat) (x:K×V),m'[j]?=some x→∃ e:MapEntry,ms[j]?=some e∧e.key=kv x.1∧DV w O agg (enc x.2) e.val
theorem Klh{Z:Env}{M:Mp}{w:World}(hr:RelH Z hp M w){id b c:Nat}{m:List (K×V)}{st}(ho:hp[id]?=some (mObS kv agg enc m st))(hM:M.l[id]?=some (some (b,c))) :
  ∃ m' ms cl,MapAt w (ownZ Z hp M) kv agg enc b m m' st ms cl:=by
 obtain⟨ms,cl,es',h1,p1,p2,p3,h2,h3,h4⟩:=hr.obj id _ _ ho hM
 obtain⟨m',q1,rfl⟩:=Kky _ p1 m rfl
 rw[List.pairwise_map] at p2
 exact⟨m',ms,cl,q1,p2,p3,h1,by simpa using h2,h3,fun j x hj=>h4 j _ _ (by simp[hj])⟩
theorem MapAt.find{w:World}{O:Ow}{b:Nat}{m m':List (K×V)}{st}{ms:Array MapEntry}{cl:Nat}(h:MapAt w O kv agg enc b m m' st ms cl){dd:TypeDesc}(hK:KeyOk dd kv)(k:K) :
  Instr.findNow dd (kv k) ms.toList 0=some ((m'.findIdx? fun e=>k==e.1).bind fun j=>(ms[j]?).map fun e=>(j,e.val)):=by
 have:=Klb hK k ms.toList m' 0 (by simpa using h.size) (fun j e x he hj=>by
  obtain⟨e',e1,e2,_⟩:=h.get j x hj
  have:e=e':=by
   have he':ms[j]?=some e:=by simpa using he
   rw[e1] at he';exact(oSi he').symm
  rw[this];exact e2)
 rw[this]
 congr 2
 funext j
 simp
theorem Kli(m:List (K×V))(k:K):mGet m k=(m.findIdx? fun e=>k==e.1).bind fun j=>(m[j]?).map (·.2):=by
 unfold mGet
 induction m with
 | nil=>rfl
 | cons x m ih=>
  rw[List.find?_cons,List.findIdx?_cons]
  cases hb:(k==x.1) with
  | true=>simp
  | false=>
   simp only[ih]
   cases m.findIdx? fun e=>k==e.1<;>simp
theorem Klj(hΓ:TOK P Γ){t kt et:TypeId}{i1 i2 i3:TI}{x y:Operand}{id:Nat}{st:Option (List (Value×List D)×List Nat×Nat)}(m:List (K×V))(k:K)(z:V){gv:G}(h1:Γ t=some i1)(h1':i1.desc=.map kt et)(h2:Γ kt=some i2)(h3:Γ et=some i3)(hK:KeyOk i2.desc kv)
  (hx:fr.ev x=some (.map id)) (ho:hp[id]?=some (mObS kv agg enc m st)) (hy:fr.ev y=some (.d (.v (kv k)))) (hz:zD i3.zero=enc z) (hag:isAggV i3.zero=agg) (hz1:(i3.zero.cells.toList.all (·.oneCell'))=true)
  (hg:dG agg (enc ((mGet m k).getD z))=some gv):OpP P N ⟨some d,.lookup t x y false,ty,pos,after,gd⟩ fr hp gv:=fun Z w M a hr=>by
 obtain⟨u1,_⟩:=hΓ t _ h1
 rw[h1'] at u1
 obtain⟨u2,_⟩:=hΓ kt _ h2
 obtain⟨u3,inf,e1,e2,e3,e4⟩:=hΓ et _ h3
 have hvx:=hr.ev hx
 simp only[execOp,hr.ev_v hy]
 generalize a.eval x=vx at hvx
 cases hvx with
 | map hM=>
  obtain⟨m',ms,cl,hA⟩:=Klh hr.heap ho hM
  have m1:=hA.heap
  have m4:=hA.get
  have hf:=MapKept.run_findKey (P:=P) (w:=w) u2 (hA.find hK k)
  have hc:=MapKept.run_checkKey (P:=P) (w:=w) u2 (hK.key k) ms.isEmpty 9999
  rw[←Klg hK hA.perm hA.apart] at hg
  rw[Kli] at hg
  cases hi:m'.findIdx? fun e=>k==e.1 with
  | none=>
   rw[hi] at hf hg
   simp only[Option.bind_none,Option.getD_none] at hf hg
   refine⟨i3.zero,?_,(Klc hag hz1).vr (by rw[hz];exact hg)⟩
   simp[Instr.lookup,run_underlying u1,MapKept.run_getObj_map m1,hc,hf,zeroValue,typeInfo,e1,e4]
  | some j=>
   rw[hi] at hf hg
   have hj:j<m'.length:=(lFi.1 hi).1
   obtain⟨e,f1,f2,f3⟩:=m4 j _ (gGe hj)
   simp only[Option.bind_some,f1,List.getElem?_eq_getElem hj,Option.map_some,Option.getD_some] at hf hg
   refine⟨e.val,?_,f3.vr hg⟩
   simp[Instr.lookup,run_underlying u1,MapKept.run_getObj_map m1,hc,hf]
theorem Klk{α:Type}{y:α}(x:α):∀ {l:List α} {j:Nat},l[j]?=some y→(l.set j x).Perm (x :: l.eraseIdx j)∧l.Perm (y :: l.eraseIdx j)
 | [],j,h=>by simp at h
 | a :: l,0,h=>by simp at h;subst h;exact⟨.refl _,.refl _⟩
 | a :: l,j+1,h=>by
  obtain⟨h1,h2⟩:=Klk x (l:=l) (j:=j) (by simpa using h)
  exact⟨(h1.cons a).trans (.swap _ _ _),(h2.cons a).trans (.swap _ _ _)⟩
theorem Kll{m' m:List (K×V)}(hp:m'.Perm m)(k:K)(h:(m'.findIdx? fun e=>k==e.1)=none):(m.findIdx? fun e=>k==e.1)=none:=by
 rw[List.findIdx?_eq_none_iff] at h ⊢
 exact fun x hx=>h x (hp.mem_iff.2 hx)
theorem Klm(hΓ:TOK P Γ){t kt et:TypeId}{i1 i2:TI}{x y z:Operand}{id:Nat}{st:Option (List (Value×List D)×List Nat×Nat)}(m:List (K×V))(k:K)(v:V){gv:G}(h1:Γ t=some i1)(h1':i1.desc=.map kt et)(h2:Γ kt=some i2)(hK:KeyOk i2.desc kv)
  (hx:fr.ev x=some (.map id)) (ho:hp[id]?=some (mObS kv agg enc m st)) (hy:fr.ev y=some (.d (.v (kv k)))) (hv:fr.ev z=some gv) (hg:dG agg (enc v)=some gv) :
  OpU P N ⟨none,.mapUpdate t x y z,ty,pos,after,gd⟩ fr hp (hp.set id (mOb kv agg enc (mSet m k v))):=fun Z w M a hr=>by
 obtain⟨u1,_⟩:=hΓ t _ h1
 rw[h1'] at u1
 obtain⟨u2,_⟩:=hΓ kt _ h2
 have hvx:=hr.ev hx
 have hvz:=hr.ev hv
 simp only[execOp,hr.ev_v hy]
 generalize a.eval x=vx at hvx
 generalize a.eval z=vz at hvz
 have hdz:DV w (ownZ Z hp M) agg (enc v) vz:=hvz.dv hg
 cases hvx with
 | map hM=>
  rename_i b c
  obtain⟨m',ms,cl,hA⟩:=Klh hr.heap ho hM
  have m1:=hA.heap
  have m2:=hA.size
  have m3:=hA.born
  have m4:=hA.get
  have hf:=MapKept.run_findKey (P:=P) (w:=w) u2 (hA.find hK k)
  have hc:=MapKept.run_checkKey (P:=P) (w:=w) u2 (hK.key k) false 9999
  cases hi:m'.findIdx? fun e=>k==e.1 with
  | none=>
   rw[hi] at hf
   simp only[Option.bind_none] at hf
   have hset:mSet m k v=mIns k v m:=by unfold mSet;rw[Kll hA.perm k hi]
   have hnk:∀ e∈m',kv e.1≠kv k:=fun e he hkv=>by
    have h0:=List.findIdx?_eq_none_iff.1 hi e he
    have hs:=hK.same k e.1
    rw[hkv,hK.same k k,hK.refl k,h0] at hs
    cases hs
   rw[hset]
   obtain⟨r1,r2⟩:=Kle (o':=mOb kv agg enc (mIns k v m)) (ob':=.map (ms.push { key:=kv k,val:=vz,born:=cl }) (cl+1)) hr.heap ho rfl hM (fun w' hst hh=>by
    refine⟨_,_,(m'++[(k,v)]).map fun e=>(kv e.1,enc e.2),hh,?_,?_,fun raw h=>(by cases h),by simp[m2],⟨fun i j e e' hi hj hb=>?_,fun i e hi=>?_⟩,fun j k' ds hj=>?_⟩
    ·exact((hA.perm.append_right _).trans (Kkx k v m).symm).map _
    ·rw[List.pairwise_map,List.pairwise_append]
     exact⟨hA.apart,List.pairwise_singleton _ _,fun e he e' he'=>by obtain rfl:=List.mem_singleton.1 he';exact hnk e he⟩
    ·rw[Array.getElem?_push] at hi hj
     split at hi<;>split at hj
     ·omega
     ·cases hi;have:=m3.2 j e' hj;simp only at hb;omega
     ·cases hj;have:=m3.2 i e hi;simp only at hb;omega
     ·exact m3.1 i j e e' hi hj hb
    ·rw[Array.getElem?_push] at hi
     split at hi
     ·cases hi;simp
     ·have:=m3.2 i e hi;omega
    ·simp only[List.map_append,List.map_cons,List.map_nil] at hj
     rcases Krk hj with⟨hl,h'⟩ | ⟨hl,h'⟩
     ·rw[gMp] at h'
      obtain⟨x,hx,he⟩:=oMs.1 h'
      simp only[Prod.mk.injEq] at he
      obtain⟨rfl,rfl⟩:=he
      obtain⟨e,e1,e2,e3⟩:=m4 j x hx
      have hlt:=(aEs.1 e1).1
      exact⟨e,by rw[Array.getElem?_push_lt hlt,←Array.getElem?_eq_getElem hlt];exact e1,e2,e3.step hst⟩
     ·simp only[Prod.mk.injEq] at h'
      obtain⟨rfl,rfl⟩:=h'
      refine⟨{ key:=kv k,val:=vz,born:=cl },?_,rfl,hdz.step hst⟩
      rw[hl,List.length_map,←m2]
      simp) rfl
   refine⟨_,M,?_,r1,r2,⟨Nat.le_of_eq hr.heap.len.symm,fun _ _=>rfl⟩⟩
   simp[Instr.mapUpdate,run_underlying u1,MapKept.run_getObj_map m1,hc,hf,MapKept.run_setObj_map _ m1]
  | some j=>
   rw[hi] at hf
   have hj:j<m'.length:=(lFi.1 hi).1
   have hkj:(k==(m'[j]).1)=true:=(lFi.1 hi).2.1
   have hkj':=hK.eq _ _ hkj
   obtain⟨e,f1,f2,f3⟩:=m4 j _ (gGe hj)
   simp only[Option.bind_some,f1,Option.map_some] at hf
   obtain⟨i,hi2⟩:∃ i,(m.findIdx? fun e=>k==e.1)=some i:=by
    cases h0:m.findIdx? fun e=>k==e.1 with
    | some i=>exact⟨i,rfl⟩
    | none=>rw[Kll hA.perm.symm k h0] at hi;cases hi
   have hil:i<m.length:=(lFi.1 hi2).1
   have hki:=hK.eq _ _ (lFi.1 hi2).2.1
   have hset:mSet m k v=m.set i (k,v):=by unfold mSet;rw[hi2]
   have hsame:m'[j]=m[i]:=hA.apart.one (List.getElem_mem hj) (hA.perm.mem_iff.2 (List.getElem_mem hil)) (by rw[←hkj',←hki])
   have hperm:(m'.set j (k,v)).Perm (m.set i (k,v)):=by
    obtain⟨a1,a2⟩:=Klk (k,v) (gGe hj)
    obtain⟨b1,b2⟩:=Klk (k,v) (gGe hil)
    rw[hsame] at a2
    exact a1.trans ((((a2.symm.trans hA.perm).trans b2).cons_inv.cons _).trans b1.symm)
   rw[hset]
   have hjs:=(aEs.1 f1).1
   have hbits:Instr.sameBits 10000 e.key (kv k)=true:=by rw[f2];exact hK.bits k _ hkj
   obtain⟨r1,r2⟩:=Kle (o':=mOb kv agg enc (m.set i (k,v))) (ob':=.map (ms.modify j fun e=>{ e with key:=kv k,val:=vz }) cl) hr.heap ho rfl hM (fun w' hst hh=>by
    have hget:∀ (i:Nat) (e':MapEntry),(ms.modify j fun e=>{ e with key:=kv k,val:=vz })[i]?=some e'→∃ e0,ms[i]?=some e0∧e'.born=e0.born:=fun i e' h=>by
     rw[Array.getElem?_modify] at h
     split at h
     ·obtain⟨e0,h0,rfl⟩:=oMs.1 h
      exact⟨e0,h0,rfl⟩
     ·exact⟨e',h,rfl⟩
    refine⟨_,_,(m'.set j (k,v)).map fun e=>(kv e.1,enc e.2),hh,hperm.map _,?_,fun raw h=>(by cases h),by simp[m2],⟨fun i i' e1 e2 h1 h2 hb=>?_,fun i e1 h1=>?_⟩,fun i k' ds h=>?_⟩
    ·have hkeys:(m'.set j (k,v)).map (fun e=>kv e.1)=m'.map (fun e=>kv e.1):=by
      rw[List.map_set]
      apply List.ext_getElem?
      intro n
      rw[List.getElem?_set]
      split
      ·rename_i hn
       subst hn
       simp[hj,hkj']
      ·rfl
     rw[List.pairwise_map]
     have:=List.pairwise_map (f:=fun e:K×V=>kv e.1) (R:=fun x y=>x≠y) (l:=m'.set j (k,v))
     rw[hkeys,List.pairwise_map] at this
     exact this.1 hA.apart
    ·obtain⟨a1,b1,c1⟩:=hget i e1 h1
     obtain⟨a2,b2,c2⟩:=hget i' e2 h2
     exact m3.1 i i' a1 a2 b1 b2 (by rw[←c1,←c2];exact hb)
    ·obtain⟨a1,b1,c1⟩:=hget i e1 h1
     rw[c1];exact m3.2 i a1 b1
    ·rw[gMp] at h
     obtain⟨x,hx,he⟩:=oMs.1 h
     simp only[Prod.mk.injEq] at he
     obtain⟨rfl,rfl⟩:=he
     by_cases hij:j=i
     ·subst hij
      rw[gSs hj] at hx
      cases hx
      exact⟨{ e with key:=kv k,val:=vz },by rw[Array.getElem?_modify,if_pos rfl,f1];rfl,rfl,hdz.step hst⟩
     ·rw[gSn hij] at hx
      obtain⟨e1,g1,g2,g3⟩:=m4 i x hx
      exact⟨e1,by rw[Array.getElem?_modify,if_neg hij];exact g1,g2,g3.step hst⟩) rfl
   refine⟨_,M,?_,r1,r2,⟨Nat.le_of_eq hr.heap.len.symm,fun _ _=>rfl⟩⟩
   simp[Instr.mapUpdate,run_underlying u1,MapKept.run_getObj_map m1,hc,hf,MapKept.run_setObj_map _ m1,f1,Instr.keyThatStays,hbits]
def runeS(n:Int):List UInt8:=(Utf8.encode n).data.toList
theorem Kln(hΓ:TOK P Γ){t t':TypeId}{i1 i2:TI}{x:Operand}{kd:IntKind}{n:Int}(h1:Γ t=some i1)(h1':i1.desc=.int kd)(h2:Γ t'=some i2)(h2':i2.desc=.string)(hx:fr.ev x=some (.d (.v (.int kd n)))) :
  OpP P N ⟨some d,.convert t t' x,ty,pos,after,gd⟩ fr hp (.d (.v (.string ⟨(runeS n).toArray⟩))):=fun Z w M a hr=>by
 obtain⟨u1,_⟩:=hΓ t _ h1
 rw[h1'] at u1
 obtain⟨u2,_⟩:=hΓ t' _ h2
 rw[h2'] at u2
 simp only[execOp,hr.ev_v hx]
 have e:(⟨(runeS n).toArray⟩:ByteArray)=Utf8.encode n:=by simp[runeS]
 refine⟨.string (Utf8.encode n),?_,by rw[e];exact .d (.v _ rfl)⟩
 simp[convert,run_underlying u1,run_underlying u2,Conv.intToString,asInt]
end
end Go.Gk
namespace Go.Gk
def Slf{α:Type}(enc:α→List D)(l:List α):D:=.rf l.length (l.flatMap enc)
inductive D.Le:D→D→Prop
 | refl (d:D):D.Le d d
 | rf (n:Nat) (xs:List D):D.Le (.rf n xs) (.ro n xs)
 | rt (te:TypeId) (sz t n:Nat) (xs:List D):D.Le (.rt te sz t n xs) (.ro n xs)
def Ds.Le:List D→List D→Prop
 | [],[]=>True
 | d :: r,d' :: r'=>D.Le d d'∧Ds.Le r r'
 | _,_=>False
theorem Ds.Le.get:∀ {l l':List D},Ds.Le l l'→l.length=l'.length∧∀ (j:Nat) (d':D),l'[j]?=some d'→∃ d,l[j]?=some d∧D.Le d d'
 | [],[],_=>⟨rfl,fun j d' h=>by simp at h⟩
 | d :: r,d' :: r',h=>by
  obtain⟨h1,h2⟩:=Ds.Le.get h.2
  refine⟨by simp[h1],fun j x hx=>?_⟩
  cases j with
  | zero=>simp at hx;subst hx;exact⟨d,rfl,h.1⟩
  | succ j=>simpa using h2 j x (by simpa using hx)
 | [],_ :: _,h=>h.elim
 | _ :: _,[],h=>h.elim
theorem Ds.Le.app:∀ {a a' b b':List D},Ds.Le a a'→Ds.Le b b'→Ds.Le (a++b) (a'++b')
 | [],[],_,_,_,h=>h
 | _ :: _,_ :: _,_,_,h1,h2=>⟨h1.1,Ds.Le.app h1.2 h2⟩
 | [],_ :: _,_,_,h,_=>h.elim
 | _ :: _,[],_,_,h,_=>h.elim
theorem Ds.Le.flat{α:Type}{e e':α→List D}(h:∀ x,Ds.Le (e x) (e' x)):∀ l:List α,Ds.Le (l.flatMap e) (l.flatMap e')
 | []=>trivial
 | x :: l=>by simp only[List.flatMap_cons];exact(h x).app (Ds.Le.flat h l)
section
variable{P:Program}{Γ:TypeId→Option TI}{F N:Nat}{Q:GPost}{fr fr':Fr}{hp hp':List Ob}{ks:List Kt}
variable{α:Type}{enc enc':α→List D}{ops:Array Oper}{rest:List Oper}{g:G}
variable{d:Tmp}{op:Op}{ty:TypeId}{pos:String}{after:Array Edge}{gd:Option (Nat×Bool)}
end
end Go.Gk
namespace Go.Gk
def rangeL{α σ:Type}(f:α→σ→Option σ):List α→σ→Option σ
 | [],s=>some s
 | x :: l,s=>match f x s with
  | some s'=>rangeL f l s'
  | none=>none
noncomputable def rangeP {α σ:Type} (f:α→σ→Option σ) (m:List α) (s:σ):Option σ:=
 open Classical in if h:∃ r,∀ m':List α,m'.Perm m→rangeL f m' s=some r then some (Classical.choose h) else none
def remL{α:Type}(l:List (α×Nat))(seen:List Nat):List α:=(l.filter fun e=>!seen.contains e.2).map (·.1)
theorem Klo{α:Type}{l:List (α×Nat)}{seen:List Nat}(h:∀ e∈l,e.2∈seen):remL l seen=[]:=by
 unfold remL
 rw[List.filter_eq_nil_iff.2 fun e he=>by simpa using h e he]
 rfl
theorem Klp{α:Type}{l:List (α×Nat)}{seen:List Nat}{b:Nat}(h:∀ e∈l,e.2≠b):remL l (seen++[b])=remL l seen:=by
 unfold remL
 rw[List.filter_congr fun e he=>?_]
 have:=h e he
 simp[this]
theorem Klq{α:Type}{y:α}{b:Nat}{seen:List Nat}(hb:b ∉ seen):∀ {l:List (α×Nat)} {j:Nat},l[j]?=some (y,b)→(l.map (·.2)).Nodup→(remL l seen).Perm (y :: remL l (seen++[b]))
 | [],j,h,_=>by simp at h
 | e :: l,0,h,hn=>by
  simp only[List.getElem?_cons_zero,Option.some.injEq] at h
  subst h
  have hn':=List.nodup_cons.1 (by simpa using hn:(b :: l.map (·.2)).Nodup)
  have hc:=Klp (l:=l) (seen:=seen) (b:=b) fun e he hx=>hn'.1 (by rw[←hx];exact List.mem_map.2 ⟨e,he,rfl⟩)
  unfold remL at hc ⊢
  simp only[List.filter_cons]
  have h1:(!seen.contains b)=true:=by simpa using hb
  have h2:(!(seen++[b]).contains b)=false:=by simp
  rw[if_pos h1,if_neg (by rw[h2];exact Bool.false_ne_true),List.map_cons,hc]
 | e :: l,j+1,h,hn=>by
  have hn':=List.nodup_cons.1 (by simpa using hn:(e.2 :: l.map (·.2)).Nodup)
  have ih:=Klq hb (l:=l) (j:=j) (by simpa using h) hn'.2
  have hne:e.2≠b:=fun hx=>hn'.1 (by rw[hx];exact List.mem_map.2 ⟨(y,b),mOg (by simpa using h),rfl⟩)
  unfold remL at ih ⊢
  simp only[List.filter_cons]
  by_cases hs:e.2∈seen
  ·have h1:(!seen.contains e.2)=false:=by simpa using hs
   have h2:(!(seen++[b]).contains e.2)=false:=by simp[hs]
   rw[if_neg (by rw[h1];exact Bool.false_ne_true),if_neg (by rw[h2];exact Bool.false_ne_true)]
   exact ih
  have h1:(!seen.contains e.2)=true:=by simpa using hs
  have h2:(!(seen++[b]).contains e.2)=true:=by simp[hs,hne]
  rw[if_pos h1,if_pos h2,List.map_cons,List.map_cons]
  exact(ih.cons _).trans (.swap _ _ _)
section
variable{P:Program}{Γ:TypeId→Option TI}{F N:Nat}{Q:GPost}{fr fr':Fr}{hp hp':List Ob}{ks:List Kt}
variable{ops:Array Oper}{rest:List Oper}{g:G}
variable{d:Tmp}{op:Op}{ty:TypeId}{pos:String}{after:Array Edge}{gd:Option (Nat×Bool)}
theorem Klr{Z:Env}{M:Mp}{w:World}(hr:RelH Z hp M w){id:Nat}{o o':Ob}(ho:hp[id]?=some o)(hl:o.live=true)(hl':o'.live=true)
  (h:∀ m,M.l[id]?=some m→ObR w (ownZ Z hp M) M o m→ObR w (ownZ Z hp M) M o' m) (hob:o.isBag=false:=by rfl) (hob':o'.isBag=false:=by rfl):RelH Z (hp.set id o') M w∧own (hp.set id o') M=own hp M:=by
 have hid:id<hp.length:=(gEs.1 ho).1
 have hcase:∀ (i:Nat) (q:Ob),(hp.set id o')[i]?=some q→(i≠id∧hp[i]?=some q)∨(i=id∧q=o'):=fun i q hq=>by
  by_cases hii:i=id
  ·subst hii;simp[hid] at hq;exact .inr ⟨rfl,hq.symm⟩
  ·rw[gSn (Ne.symm hii)] at hq;exact .inl ⟨hii,hq⟩
 have hb1:∀ b,obOwn (hp.set id o') M b→obOwn hp M b:=by
  rintro b ⟨i,q,c,h1,h2,h3⟩
  rcases hcase i q h1 with⟨_,h4⟩ | ⟨rfl,rfl⟩
  ·exact⟨i,q,c,h4,h2,h3⟩
  ·exact⟨i,o,c,ho,hl,h3⟩
 have hb2:∀ b,obOwn hp M b→obOwn (hp.set id o') M b:=by
  rintro b ⟨i,q,c,h1,h2,h3⟩
  by_cases hii:i=id
  ·subst hii;exact⟨i,o',c,by simp[hid],hl',h3⟩
  ·exact⟨i,q,c,by rw[gSn (Ne.symm hii)];exact h1,h2,h3⟩
 have hg:hasBag (hp.set id o') ↔ hasBag hp:=⟨fun g=>g.of (Kpf hob'),fun ⟨i,al,ar,lt,k⟩=>⟨i,al,ar,lt,by rw[gSn (fun e=>by subst e;rw[ho] at k;cases k;cases hob)];exact k⟩⟩
 have hO:own (hp.set id o') M=own hp M:=Kpd (fun b=>⟨fun h=>h.imp (hb1 b) fun ⟨g,h⟩=>⟨hg.1 g,h⟩,fun h=>h.imp (hb2 b) fun ⟨g,h⟩=>⟨hg.2 g,h⟩⟩) rfl hg
 have hOZ:ownZ Z (hp.set id o') M=ownZ Z hp M:=by unfold ownZ;rw[hO]
 refine⟨⟨by simp[hr.len],fun i q m h1 h2=>?_,fun b hb=>hr.apart b (by rw[←hO];exact hb),hr.old,hr.amb,fun i j oi oj b c c' hi hj li lj mi mj=>?_,hr.bags.mono rfl (Nat.le_refl _) (fun b _=>hb1 b) (Kpf hob')⟩,hO⟩
 ·rw[hOZ]
  rcases hcase i q h1 with⟨_,h4⟩ | ⟨rfl,rfl⟩
  ·exact hr.obj i q m h4 h2
  ·exact h m h2 (hr.obj _ _ m ho h2)
 ·have key:∀ (i:Nat) (oi:Ob),(hp.set id o')[i]?=some oi→oi.live=true→∃ oi':Ob,hp[i]?=some oi'∧oi'.live=true:=fun i oi e1 l1=>by
   rcases hcase i oi e1 with⟨_,h4⟩ | ⟨rfl,rfl⟩
   ·exact⟨oi,h4,l1⟩
   ·exact⟨_,ho,hl⟩
  obtain⟨oi',f1,f2⟩:=key i oi hi li
  obtain⟨oj',f3,f4⟩:=key j oj hj lj
  exact hr.inj i j oi' oj' b c c' f1 f3 f2 f4 mi mj
theorem Kls{Z:Env}{M:Mp}{w:World}(hr:RelH Z hp M w)(id:Nat):RelH Z (hp.set id .dead) M w∧Stp w (own hp M) w (own (hp.set id .dead) M):=by
 have hcase:∀ (i:Nat) (q:Ob),(hp.set id .dead)[i]?=some q→(i≠id∧hp[i]?=some q)∨(i=id∧q=.dead):=fun i q hq=>by
  by_cases hii:i=id
  ·subst hii
   have hlt:=(gEs.1 hq).1
   simp at hlt
   simp[hlt] at hq
   exact .inr ⟨rfl,hq.symm⟩
  rw[gSn (Ne.symm hii)] at hq;exact .inl ⟨hii,hq⟩
 have hobo:∀ b,obOwn (hp.set id .dead) M b→obOwn hp M b:=by
  rintro b ⟨i,q,c,h1,h2,h3⟩
  rcases hcase i q h1 with⟨_,h4⟩ | ⟨rfl,rfl⟩
  ·exact⟨i,q,c,h4,h2,h3⟩
  cases h2
 have hown:∀ b,own (hp.set id .dead) M b→own hp M b:=fun b h=>Kpe h (hobo b) (fun g=>g.of (Kpf rfl)) rfl
 have hst:Stp w (own hp M) w (own (hp.set id .dead) M):=.still (fun b _ h=>hown b h) rfl fun g=>g.of (Kpf rfl)
 refine⟨⟨by simp[hr.len],fun i q m h1 h2=>?_,fun b hb=>hr.apart b (hown b hb),hr.old,hr.amb,fun i j oi oj b c c' hi hj li lj mi mj=>?_,hr.bags.mono rfl (Nat.le_refl _) (fun b _=>hobo b) (Kpf rfl)⟩,hst⟩
 ·rcases hcase i q h1 with⟨_,h4⟩ | ⟨rfl,rfl⟩
  ·have:=hr.obj i q m h4 h2
   exact this.move (k:=M.l.length) (Kpj Z hst) (fun _ _=>rfl) this.bel (fun _ _ _ _=>rfl) (fun _ _ _ _=>⟨rfl,fun _ _ _=>rfl⟩)
  cases m<;>trivial
 rcases hcase i oi hi with⟨_,h4⟩ | ⟨rfl,rfl⟩
 ·rcases hcase j oj hj with⟨_,h5⟩ | ⟨rfl,rfl⟩
  ·exact hr.inj i j oi oj b c c' h4 h5 li lj mi mj
  cases lj
 cases li
theorem Klt{Z:Env}{M:Mp}{w:World}(hr:RelH Z hp M w):RelH Z hp M w.drew∧Stp w (own hp M) w.drew (own hp M):=by
 have hdr:Stp w (own hp M) w.drew (own hp M):=.mk' (Nat.le_refl _) (fun _ _ _=>rfl) (fun _ _ h=>h) rfl rfl rfl rfl (fun g=>g) fun _ _ _=>rfl
 refine⟨⟨hr.len,fun i o m h1 h2=>?_,hr.apart,hr.old,hr.amb_stp hdr,hr.inj,hr.bags.mono rfl (Nat.le_refl _) (fun _ _ h=>h) (fun _ _ _ _ h=>h)⟩,hdr⟩
 have:=hr.obj i o m h1 h2
 exact this.move (k:=M.l.length) (Kpj Z hdr) (fun _ _=>rfl) this.bel (fun _ _ _ _=>rfl) (fun _ _ _ _=>⟨rfl,fun _ _ _=>rfl⟩)
theorem Klu{ms:Array MapEntry}{cl:Nat}(h:Born ms cl):(ms.toList.map (·.born)).Nodup:=by
 rw[List.nodup_iff_pairwise_ne,List.pairwise_map,List.pairwise_iff_getElem]
 intro i j hi hj hij he
 have:=h.1 i j (ms.toList[i]) (ms.toList[j]) (by simp) (by simp) he
 omega
variable{K V:Type}[BEq K][KLt K]{kv:K→Value}{agg:Bool}{enc:V→List D}
abbrev rawM(kv:K→Value)(enc:V→List D)(m':List (K×V))(bs:List Nat)(cl:Nat):Option (List (Value×List D)×List Nat×Nat):=some (m'.map (fun e=>(kv e.1,enc e.2)),bs,cl)
theorem Klv(hΓ:TOK P Γ){t kt et:TypeId}{i1:TI}{x:Operand}{id:Nat}(m:List (K×V))(h1:Γ t=some i1)(h1':i1.desc=.map kt et)(hx:fr.ev x=some (.map id))(ho:hp[id]?=some (mOb kv agg enc m))(hd:Nat.blt d N=true)(hF:F≤hp.length)
  (k:∀ (m':List (K×V)) (bs:List Nat) (cl:Nat),m'.Perm m→bs.length=m'.length→bs.Nodup→EO P F N ops rest Q ((d,.ptr hp.length 0) :: fr) (hp.set id (mObS kv agg enc m (rawM kv enc m' bs cl))++[.iter id cl []])) :
  EO P F N ops (⟨some d,.range t x,ty,pos,after,none⟩ :: rest) Q fr hp:=by
 intro Z w0 O0 M0 w M a hs ha hr
 refine wpList_plain rfl fun K' hK'=>?_
 obtain⟨u1,_⟩:=hΓ t _ h1
 rw[h1'] at u1
 have hvx:=hr.ev hx
 unfold Oper.wp
 simp only[execOp]
 generalize a.eval x=vx at hvx
 cases hvx with
 | map hM=>
  rename_i b c
  obtain⟨m',ms,cl,hA⟩:=Klh hr.heap ho hM
  have hrun:=run_range_map (P:=P) w t kt et b ms cl u1 hA.heap
  have hbl:(ms.toList.map (·.born)).length=m'.length:=by simp[hA.size]
  have hbn:=Klu hA.born
  obtain⟨r1,r2⟩:=Klr hr.heap ho (o':=mObS kv agg enc m (rawM kv enc m' (ms.toList.map (·.born)) cl)) rfl rfl fun q hq hob=>by
   rw[hM] at hq
   cases hq
   exact⟨ms,cl,_,hA.heap,hA.perm.map _,List.pairwise_map.2 hA.apart,fun raw h=>(by cases h;rfl),by simpa using hA.size,hA.born,fun j k' ds hj=>by
    rw[gMp] at hj
    obtain⟨y,hy,he⟩:=oMs.1 hj
    simp only[Prod.mk.injEq] at he
    obtain⟨rfl,rfl⟩:=he
    exact hA.get j y hy⟩
  obtain⟨q1,q2,q3⟩:=Kld r1 (.iter id cl []) (.mapIter (some b) cl #[] cl) 0 (fun w' O' hst hh=>⟨b,c,by rw[gAl (Mp.lt hM)];exact hM,hh⟩)
  have hrun2:(do let v←Instr.range t (.map (some b));pure (Next.value v):Sem Next).run P w=.ok (.value (.pointer (some ⟨w.heap.size,0,none⟩))) (w.alloc (.mapIter (some b) cl #[] cl)):=by
   simp[hrun]
  rw[hrun2,Oper.upon_value]
  have hlen:(hp.set id (mObS kv agg enc m (rawM kv enc m' (ms.toList.map (·.born)) cl))).length=hp.length:=by simp
  rw[r2] at q2
  rw[hlen] at q3
  exact hK' _ _ (k m' _ cl hA.perm hbl hbn Z w0 O0 M0 _ _ _ (hs.trans q2) (ha.trans q3 hF) ((hr.later q1 q2 q3).put (nblt.1 hd) (.ptr (c:=0) (by rw[←hr.heap.len];simp))))
theorem Klw{x:Operand}{mid iid:Nat}(m m':List (K×V))(bs:List Nat)(cl:Nat)(seen:List Nat)(hp1:List Ob)(hx:fr.ev x=some (.ptr iid 0))(ho:hp[iid]?=some (.iter mid cl seen))(hm:hp[mid]?=some (mObS kv agg enc m (rawM kv enc m' bs cl)))
  (hend:(hp.set mid (mOb kv agg enc m)).set iid .dead=hp1) (hd:Nat.blt d N=true) (hF:F≤hp.length)
  (k0:(∀ b∈bs,b∈seen)→EO P F N ops rest Q ((d,.tup [.d (.v (.bool false))]) :: fr) hp1)
  (k1:∀ (j:Nat) (y:K×V) (b:Nat),m'[j]?=some y→bs[j]?=some b→b ∉ seen→EO P F N ops rest Q ((d,.tup [.d (.v (.bool true)),.junk,.junk]) :: fr) (hp.set iid (.iter mid cl (seen++[b])))) :
  EO P F N ops (⟨some d,.next x false,ty,pos,after,none⟩ :: rest) Q fr hp:=by
 intro Z w0 O0 M0 w M a hs ha hr
 refine wpList_plain rfl fun K' hK'=>?_
 have hvx:=hr.ev hx
 unfold Oper.wp
 simp only[execOp]
 generalize a.eval x=vx at hvx
 cases hvx with
 | ptr hM=>
  rename_i b c
  obtain⟨bm,cM,hMm,hit⟩:=hr.heap.obj iid _ _ ho hM
  obtain⟨m2,ms,cl2,hA⟩:=Klh hr.heap hm hMm
  have hraw:=hA.raw _ rfl
  simp only[Prod.mk.injEq] at hraw
  obtain⟨e1,rfl,rfl⟩:=hraw
  rcases run_next_at (P:=P) w ty b bm cl cl seen.toArray ms cl hit hA.heap (fun e he=>by
    obtain⟨j,hj⟩:=List.getElem?_of_mem he
    exact hA.born.2 j e (by simpa using hj)) (Nat.le_refl _) with⟨h0,hrun⟩ | ⟨e,he,w1,hw1,hrun⟩
  ·obtain⟨r1,r2⟩:=Klr hr.heap hm (o':=mOb kv agg enc m) rfl rfl fun q hq hob=>by
    rw[hMm] at hq
    cases hq
    obtain⟨ms',cl',es',q1,q2,q3,q4,q5⟩:=hob
    exact⟨ms',cl',es',q1,q2,q3,fun raw h=>(by cases h),q5⟩
   obtain⟨r3,r4⟩:=Kls r1 iid
   rw[hend] at r3 r4
   rw[r2] at r4
   have hrun2:(do let v←Instr.next (.pointer (some ⟨b,0,none⟩)) false ty;pure (Next.value v):Sem Next).run P w=.ok (.value (.tuple #[.bool false])) w:=by simp[hrun]
   rw[hrun2,Oper.upon_value]
   have hlen:hp1.length=hp.length:=by rw[←hend];simp
   have hag:Agr hp.length M M:=⟨Nat.le_of_eq hr.heap.len.symm,fun _ _=>rfl⟩
   refine hK' _ _ (k0 (fun b' hb'=>?_) Z w0 O0 M0 _ _ _ (hs.trans r4) ha ((hr.later r3 r4 hag).put (nblt.1 hd) (.tup rfl fun j g v hg hv=>?_)))
   ·obtain⟨e,he,rfl⟩:=List.mem_map.1 hb'
    have hz:=Array.eq_empty_of_size_eq_zero h0
    unfold leftOf at hz
    rw[Array.filter_eq_empty_iff] at hz
    have:=hz e (by simpa using he)
    simpa using this
   ·match j with
    | 0=>cases hg;cases hv;exact .d (.v _ rfl)
    | j+1=>cases hg
  ·have hr1:RelH Z hp M w1∧Stp w (own hp M) w1 (own hp M):=by
    rcases hw1 with rfl | rfl
    ·exact⟨hr.heap,.refl _ _⟩
    ·exact Klt hr.heap
   have he':e∈ms∧e.born ∉ seen:=by
    unfold leftOf at he
    simpa using he
   obtain⟨j,hj⟩:=Array.getElem?_of_mem he'.1
   have hj2:j<m2.length:=by rw[←hA.size];exact(aEs.1 hj).1
   have hj3:j<m'.length:=by
    have:=congrArg List.length e1
    simp at this
    omega
   obtain⟨r1,r2⟩:=Kle (o':=.iter mid cl (seen++[e.born])) (ob':=.mapIter (some bm) cl (seen.toArray.push e.born) cl) hr1.1 ho rfl hM (fun w' hst hh=>⟨bm,cM,hMm,by simpa using hh⟩) rfl
   have hrun2:(do let v←Instr.next (.pointer (some ⟨b,0,none⟩)) false ty;pure (Next.value v):Sem Next).run P w=.ok (.value (.tuple #[.bool true,e.key,e.val])) { w1 with heap:=w1.heap.setIfInBounds b (.mapIter (some bm) cl (seen.toArray.push e.born) cl) }:=by
    simp[hrun,ChangeMaps.setBlock]
   rw[hrun2,Oper.upon_value]
   have hag:Agr hp.length M M:=⟨Nat.le_of_eq hr.heap.len.symm,fun _ _=>rfl⟩
   refine hK' _ _ (k1 j _ e.born (gGe hj3) ?_ he'.2 Z w0 O0 M0 _ _ _ (hs.trans (hr1.2.trans r2)) ha ((hr.later r1 (hr1.2.trans r2) hag).put (nblt.1 hd) (.tup rfl fun j g v hg hv=>?_)))
   ·rw[gMp]
    simp[hj]
   ·match j with
    | 0=>cases hg;cases hv;exact .d (.v _ rfl)
    | 1=>cases hg;cases hv;exact .junk _
    | 2=>cases hg;cases hv;exact .junk _
    | j+3=>cases hg
theorem Klx{x:Operand}{mid iid:Nat}(m m':List (K×V))(bs:List Nat)(cl:Nat)(seen:List Nat){j b:Nat}{y:K×V}{gv:G}(hj:m'[j]?=some y)(hb:bs[j]?=some b)(hx:fr.ev x=some (.ptr iid 0))(ho:hp[iid]?=some (.iter mid cl (seen++[b])))(hm:hp[mid]?=some (mObS kv agg enc m (rawM kv enc m' bs cl)))
  (hg:dG agg (enc y.2)=some gv) (hkv:∀ a:K,(kv a).oneCell'=true):OpP P N ⟨some d,.entry x,ty,pos,after,gd⟩ fr hp (.tup [.d (.v (kv y.1)),gv]):=fun Z w M a hr=>by
 have hvx:=hr.ev hx
 simp only[execOp]
 generalize a.eval x=vx at hvx
 cases hvx with
 | ptr hM=>
  rename_i b' c
  obtain⟨bm,cM,hMm,hit⟩:=hr.heap.obj iid _ _ ho hM
  obtain⟨m2,ms,cl2,hA⟩:=Klh hr.heap hm hMm
  have hraw:=hA.raw _ rfl
  simp only[Prod.mk.injEq] at hraw
  obtain⟨e1,rfl,rfl⟩:=hraw
  rw[gMp] at hb
  obtain⟨e,he,rfl⟩:=oMs.1 hb
  have he':ms[j]?=some e:=by simpa using he
  have hj2:j<m2.length:=by rw[←hA.size];exact(aEs.1 he').1
  obtain⟨e2,f1,f2,f3⟩:=hA.get j _ (gGe hj2)
  rw[he'] at f1
  cases f1
  have hpair:(kv y.1,enc y.2)=(kv m2[j].1,enc m2[j].2):=by
   have:=congrArg (fun l=>l[j]?) e1
   simp only[List.getElem?_map,hj,List.getElem?_eq_getElem hj2,Option.map_some,Option.some.injEq] at this
   exact this
  simp only[Prod.mk.injEq] at hpair
  have hrun:=run_entry_at (P:=P) w b' bm cl seen.toArray ms cl e (by simpa using hit) hA.heap (mOg he) (Klu hA.born)
  refine⟨.tuple #[e.key,e.val],by simp[hrun],.tup rfl fun i g v hg' hv=>?_⟩
  match i with
  | 0=>
   cases hg';cases hv
   rw[f2,hpair.1]
   exact .d (.v _ (hkv _))
  | 1=>
   cases hg';cases hv
   rw[hpair.2] at hg
   exact f3.vr hg
  | i+2=>cases hg'
theorem Kly(hΓ:TOK P Γ){t kt et:TypeId}{i1 i2:TI}{x y z:Operand}{id:Nat}{st:Option (List (Value×List D)×List Nat×Nat)}(m:List (K×V))(k:K)(v:V){gv:G}(h1:Γ t=some i1)(h1':i1.desc=.map kt et)(h2:Γ kt=some i2)(hK:KeyOk i2.desc kv)
  (hx:fr.ev x=some (.map id)) (ho:hp[id]?=some (mObS kv agg enc m st)) (hy:fr.ev y=some (.d (.v (kv k)))) (hv:fr.ev z=some gv) (hg:dG agg (enc v)=some gv) :
  OpU P N ⟨none,.insert t x y z,ty,pos,after,gd⟩ fr hp (hp.set id (mOb kv agg enc (mSet m k v))):=fun Z w M a hr=>by
 have:=Klm (P:=P) (N:=N) (ty:=ty) (pos:=pos) (after:=after) (gd:=gd) hΓ m k v h1 h1' h2 hK hx ho hy hv hg Z w M a hr
 simpa [execOp] using this
end
end Go.Gk
namespace Go.Gk
def strCells(s:List UInt8):List Value:=s.map fun b=>Value.int .u8 b.toNat
section
variable{P:Program}(w:World)
theorem Klz(s:List UInt8):(Builtin.firstCells 1 s.length (.string ⟨s.toArray⟩)).run P w=.ok (strCells s).toArray w:=by
 simp[Builtin.firstCells,strCells]
 try (rw[Array.extract_eq_self_of_le (by simp)];simp)
theorem Kma(t u ty e:TypeId)(i:TypeInfo)(ht:P.underlying t=some (.slice e))(hu:P.underlying u=some .string)(hi:P.info? e=some i)(h1s:i.size=1)
  (g sLen sCap:Nat) (cur:Array Value) (hg:w.heap[g]?=some (.cells cur e (0,0))) (s:List UInt8)
  (hroom:sLen+s.length≤sCap) (hfit:sLen+s.length≤cur.size) :
  (Builtin.append_ #[t,u] ty #[.slice (some ⟨g,0,none⟩) sLen sCap,.string ⟨s.toArray⟩]).run P w =
   .ok (.slice (some ⟨g,0,none⟩) (sLen+s.length) sCap) (w.setRow g (cur.toList.take sLen++strCells s++cur.toList.drop (sLen+s.length)).toArray):=by
 have hf:=Klz (P:=P) w s
 have hst:=run_storeCells_at P g sLen e (strCells s) 0 cur w hg (by simpa [strCells] using hfit) (fun u hu=>by simp only[strCells,List.mem_map] at hu;obtain⟨b,_,rfl⟩:=hu;rfl)
 simp only[Nat.add_zero] at hst
 have hl:(strCells s).length=s.length:=by simp[strCells]
 rw[hl] at hst
 simp[Builtin.append_,run_underlying ht,run_underlying hu,sizeOf,typeInfo,hi,h1s,Builtin.lenOf,ByteArray.size,hroom,hf,Addr.add_lit,hst]
theorem Kmb(t u ty e:TypeId)(i:TypeInfo)(z:Value)(ht:P.underlying t=some (.slice e))(hu:P.underlying u=some .string)(hi:P.info? e=some i)(hz:i.zero=some z)(h1s:i.size=1)
  (b:Addr) (sLen sCap:Nat) (olds:List Value) (hlo:olds.length=sLen * i.size) (holds:∀ j v,olds[j]?=some v→w.cell? (b.add j)=some v) (s:List UInt8)
  (hg:sCap<sLen+s.length) (h63:((sLen+s.length:Nat):Int)≤9223372036854775807) (hfit:Builtin.nextslicecap (sLen+s.length) sCap * i.bytes≤281474976710656) :
  (Builtin.append_ #[t,u] ty #[.slice (some b) sLen sCap,.string ⟨s.toArray⟩]).run P w =
   .ok (.slice (some ⟨w.heap.size,0,none⟩) (sLen+s.length) (grownCap w (sLen+s.length) sCap e))
    (w.drew.alloc (.cells (olds.toArray++(strCells s).toArray++Builtin.zeroCells z.cells (grownCap w (sLen+s.length) sCap e - (sLen+s.length))) e)):=by
 have hn:¬ (sLen+s.length≤sCap):=by omega
 have h63':¬ (9223372036854775807<((sLen:Int)+(s.length:Int))):=by omega
 have h48':¬ (281474976710656<Builtin.nextslicecap (sLen+s.length) sCap * i.bytes):=by omega
 have hf:=Klz (P:=P) w.drew s
 have hfo:=run_firstCells_some (P:=P) w.drew i.size sLen b sLen sCap olds hlo (by simpa using holds)
 rw[h1s] at hfo
 simp[Builtin.append_,run_underlying ht,run_underlying hu,sizeOf,typeInfo,zeroValue,hi,hz,h1s,Builtin.lenOf,ByteArray.size,hn,h63',h48',Question.forced,hf,hfo,newRow,grownCap]
 congr 2
 apply Array.ext'
 simp[List.append_assoc]
theorem run_append_nil_string'(t u ty e:TypeId)(i:TypeInfo)(z:Value)(ht:P.underlying t=some (.slice e))(hu:P.underlying u=some .string)(hi:P.info? e=some i)(hz:i.zero=some z)(h1s:i.size=1)
  (s:List UInt8) (h0:0<s.length) (h63:(s.length:Int)≤9223372036854775807) (h48:s.length * i.bytes≤281474976710656) :
  (Builtin.append_ #[t,u] ty #[.slice none 0 0,.string ⟨s.toArray⟩]).run P w =
   .ok (.slice (some ⟨w.heap.size,0,none⟩) s.length (grownCap w s.length 0 e))
    (w.drew.alloc (.cells ((strCells s).toArray++Builtin.zeroCells z.cells (grownCap w s.length 0 e - s.length)) e)):=by
 have hn:s.length≠0:=by omega
 have h63':¬ (9223372036854775807<(s.length:Int)):=by omega
 have h48':¬ (281474976710656<Builtin.nextslicecap s.length 0 * i.bytes):=by rw[nextslicecap_zero h0];omega
 have hf:=Klz (P:=P) w.drew s
 have hf0:=run_firstCells_none (P:=P) w.drew 1 0 0 0
 simp[Builtin.append_,run_underlying ht,run_underlying hu,sizeOf,typeInfo,zeroValue,hi,hz,h1s,Builtin.lenOf,ByteArray.size,h63',h48',Question.forced,hf,hf0,newRow,grownCap]
 intro e
 simp[e] at h0
theorem Kmc{w:World}{t tu te tyo:TypeId}{inf:TypeInfo}{z:Value}{n:Nat}{sv:Value}{cs0:Array Value}{s:List UInt8}(mo:Option (Nat×Nat))(hu:P.underlying t=some (.slice te))(hu':P.underlying tu=some .string)(hi:P.info? te=some inf)(hz:inf.zero=some z)(hzs:z.cells.size=inf.size)(hz1:inf.size=1)
  (hs:(mo=none∧sv=.slice none 0 0∧n=0)∨∃ b c,mo=some (b,c)∧sv=.slice (some ⟨b,0,none⟩) n c∧w.heap[b]?=some (.cells cs0 te (0,0))∧cs0.size=c * inf.size∧n≤c∧c≤maxLen)
  (hm:n+s.length≤maxLen) (hb:(n+s.length) * inf.bytes≤140737488355328) :
  ∃ v' w' mo',(Builtin.append_ #[t,tu] tyo #[sv,.string ⟨s.toArray⟩]).run P w=.ok v' w'∧w.heap.size≤w'.heap.size∧w'.os=w.os∧w'.tape=w.tape∧w'.output=w.output∧
   ((mo'=none∧v'=.slice none 0 0∧n+s.length=0∧w'=w∧mo=none)∨∃ b' c' cur,mo'=some (b',c')∧v'=.slice (some ⟨b',0,none⟩) (n+s.length) c'∧w'.heap[b']?=some (.cells cur te (0,0))∧cur.size=c' * inf.size∧n+s.length≤c'∧c'≤maxLen∧
    (∀ j,j<n * inf.size→mo≠none→cur[j]?=cs0[j]?)∧(∀ j u,(strCells s)[j]?=some u→cur[n * inf.size+j]?=some u)∧(∀ k,k<w.heap.size→k≠b'→w'.heap[k]?=w.heap[k]?)∧((∃ c,mo=some (b',c))∨b'=w.heap.size)):=by
 have hsmall:n+s.length≤9223372036854775807:=by simp only[maxLen] at hm;omega
 have hl:(strCells s).length=s.length * inf.size:=by rw[hz1];simp[strCells]
 have hz0:0<inf.size:=by omega
 have h1:∀ u∈strCells s,u.oneCell'=true:=fun u hu=>by simp only[strCells,List.mem_map] at hu;obtain⟨b,_,rfl⟩:=hu;rfl
 have hmn:n * inf.size=n:=by rw[hz1,Nat.mul_one]
 generalize hnw:strCells s=news at *
 generalize hmm:s.length=m at *
 rcases hs with⟨rfl,rfl,rfl⟩ | ⟨b,c,rfl,rfl,hb',hcs,hnc,hcm⟩
 ·by_cases hm0:m=0
  ·subst hm0
   have hn:news=[]:=List.eq_nil_of_length_eq_zero (by simpa using hl)
   subst hn
   refine⟨.slice none 0 0,w,none,?_,Nat.le_refl _,rfl,rfl,rfl,.inl ⟨rfl,rfl,rfl,rfl,rfl⟩⟩
   have hs0:s=[]:=List.eq_nil_of_length_eq_zero hmm
   subst hs0
   simp[Builtin.append_,run_underlying hu,run_underlying hu',sizeOf,typeInfo,hi,Builtin.lenOf,ByteArray.size,Builtin.firstCells]
  ·have hr:=run_append_nil_string' (P:=P) w t tu tyo te inf z hu hu' hi hz hz1 s (by omega) (by omega) (by simp only[Nat.zero_add] at hb;rw[hmm];omega)
   rw[hmm,hnw] at hr
   have hge:=grownCap_ge w m 0 te
   have hcm:grownCap w m 0 te≤maxLen:=grownCap_le_maxLen w m 0 te (by omega)
   refine⟨_,_,some (w.heap.size,grownCap w m 0 te),hr,by simp,rfl,rfl,rfl,.inr ⟨w.heap.size,_,_,rfl,by simp,heap_alloc_new w.drew _,?_,by omega,hcm,fun j hj=>by simp at hj,fun j u hj=>?_,fun k hk hne=>Gk.Kee w.drew _ k hk,.inr rfl⟩⟩
   ·simp only[Array.size_append,List.size_toArray,size_zeroCells,hzs,hl,←Nat.add_mul]
    congr 1
    omega
   ·have hlt:j<news.length:=(gEs.1 hj).1
    rw[Nat.zero_mul,Nat.zero_add,Array.getElem?_append_left (by simpa using hlt)]
    simpa using hj
 ·by_cases hroom:n+m≤c
  ·have hfit:n * inf.size+news.length≤cs0.size:=by rw[hl,hcs,←Nat.add_mul];exact Nat.mul_le_mul_right _ hroom
   have hr:=Kma (P:=P) w t tu tyo te inf hu hu' hi hz1 b n c cs0 hb' s (by omega) (by rw[hmm];rw[hl,hz1,Nat.mul_one,Nat.mul_one] at hfit;exact hfit)
   rw[hmm,hnw] at hr
   rw[show cs0.toList.take n=cs0.toList.take (n * inf.size) from by rw[hmn],show cs0.toList.drop (n+m)=cs0.toList.drop (n * inf.size+news.length) from by rw[hmn,hl,hz1,Nat.mul_one]] at hr
   refine⟨_,_,some (b,c),hr,by simp,rfl,rfl,rfl,.inr ⟨b,c,_,rfl,rfl,setRow_heap w b cs0 _ te _ hb',?_,hroom,hcm,fun j hj _=>?_,fun j u hj=>?_,fun k _ hne=>setRow_other w b k _ hne,.inl ⟨c,rfl⟩⟩⟩
   ·simp only[List.size_toArray,List.length_append,List.length_take,List.length_drop,Array.length_toList]
    omega
   ·rw[List.getElem?_toArray,List.append_assoc,gAl (by simp;omega),List.getElem?_take_of_lt hj]
    simp
   ·have hlt:j<news.length:=(gEs.1 hj).1
    have e:(cs0.toList.take (n * inf.size)).length=n * inf.size:=by simp;omega
    rw[List.getElem?_toArray,List.append_assoc,gAr (by omega),e,gAl (by omega)]
    simpa using hj
  ·have holds:∀ j u,(cs0.toList.take (n * inf.size))[j]?=some u→w.cell? ((⟨b,0,none⟩:Addr).add j)=some u:=fun j u hj=>by
    rw[Addr.add_lit,Nat.zero_add,cell_of_row w b j cs0 te _ hb']
    rw[List.getElem?_take] at hj
    split at hj
    ·simpa using hj
    ·cases hj
   have hxl:(cs0.toList.take (n * inf.size)).length=n * inf.size:=by
    have:=Nat.mul_le_mul_right inf.size hnc
    simp;omega
   have hr:=Kmb (P:=P) w t tu tyo te inf z hu hu' hi hz hz1 ⟨b,0,none⟩ n c (cs0.toList.take (n * inf.size)) hxl holds s (by omega) (by omega) (by rw[hmm];exact growslice_fits (by omega) hb)
   rw[hmm,hnw] at hr
   have hge:=grownCap_ge w (n+m) c te
   have hcm:grownCap w (n+m) c te≤maxLen:=grownCap_le_maxLen w (n+m) c te hm
   refine⟨_,_,some (w.heap.size,grownCap w (n+m) c te),hr,by simp,rfl,rfl,rfl,.inr ⟨w.heap.size,_,_,rfl,rfl,heap_alloc_new w.drew _,?_,hge,hcm,fun j hj _=>?_,fun j u hj=>?_,fun k hk hne=>Gk.Kee w.drew _ k hk,.inr rfl⟩⟩
   ·simp only[Array.size_append,List.size_toArray,size_zeroCells,hzs,hl,hxl,←Nat.add_mul]
    congr 1
    omega
   ·rw[Array.append_assoc,Array.getElem?_append_left (by simpa [hxl] using hj)]
    rw[List.getElem?_toArray,List.getElem?_take_of_lt hj]
    simp
   ·have hlt:j<news.length:=(gEs.1 hj).1
    rw[Array.append_assoc,Array.getElem?_append_right (by simp[hxl]),Array.getElem?_append_left (by simp[hxl];exact hlt)]
    simpa [hxl] using hj
end
def strD(s:List UInt8):List D:=s.map fun b=>D.v (.int .u8 b.toNat)
section
variable{P:Program}{Γ:TypeId→Option TI}{F N:Nat}{Q:GPost}{fr fr':Fr}{hp hp':List Ob}{ks:List Kt}
variable{α:Type}{enc:α→List D}{ops:Array Oper}{rest:List Oper}{g:G}
variable{d:Tmp}{op:Op}{ty:TypeId}{pos:String}{after:Array Edge}{gd':Option (Nat×Bool)}{t':TypeId}
theorem Kmd(hΓ:TOK P Γ){t tu te:TypeId}{i1 i2 i3:TI}{x y:Operand}{id n:Nat}{ds:List D}{s:List UInt8}(h1:Γ t=some i1)(h1':i1.desc=.slice te)(h2:Γ te=some i2)(h3:Γ tu=some i3)(h3':i3.desc=.string)(hz:Nat.beq i2.zero.cells.size i2.size=true)(hz1:i2.size=1)
  (hx:fr.ev x=some (.sl id n)) (ho:hp[id]?=some (.row te i2.size n ds)) (hy:fr.ev y=some (S s)) (hb:(n+s.length) * i2.bytes≤140737488355328) (hm:n+s.length≤maxLen) :
  OpS P N ⟨some d,.call ⟨.builtin .append,#[x,y],#[t,tu]⟩,ty,pos,after,gd'⟩ fr hp (.sl hp.length (n+s.length)) (hp.set id .dead++[.row te i2.size (n+s.length) (ds++strD s)]):=by
 intro Z w M a hr
 obtain⟨u1,_⟩:=hΓ t _ h1
 rw[h1'] at u1
 obtain⟨_,inf,e1,e2,e3,e4⟩:=hΓ te _ h2
 have hid:id<hp.length:=(gEs.1 ho).1
 have hidM:id<M.l.length:=by rw[hr.heap.len];exact hid
 have hzs:i2.zero.cells.size=inf.size:=by rw[e2];exact nEq hz
 have hvx:=hr.ev hx
 have hvy:=hr.ev hy
 have hob:=hr.heap.obj id _ _ ho (gGe hidM)
 generalize hmo:M.l[id]=mo at hob
 have hMid:M.l[id]?=some mo:=by rw[gGe hidM,hmo]
 obtain⟨u3,_⟩:=hΓ tu _ h3
 rw[h3'] at u3
 have hyv:a.eval y=.string ⟨s.toArray⟩:=by
  generalize a.eval y=vy at hvy
  cases hvy with
  | d hd=>cases hd;rfl
 have hl:(strD s).length=s.length * i2.size:=by rw[hz1];simp[strD]
 generalize hys:strD s=ys at hl
 generalize hnw:strCells s=news
 have hsrc2:news.length=ys.length:=by subst hys;subst hnw;simp[strCells,strD]
 have hsrc3:∀ (j:Nat) (u:Value) (d:D),news[j]?=some u→ys[j]?=some d→VD w (ownZ Z hp M) d u:=fun j u d h k=>by
  subst hys;subst hnw
  simp only[strCells,strD,List.getElem?_map,Option.map_eq_some_iff] at h k
  obtain⟨b1,f1,rfl⟩:=h
  obtain⟨b2,f2,rfl⟩:=k
  rw[f1] at f2;cases f2
  exact .v _ rfl
 generalize hmm:s.length=m at *
 have hrow:∃ cs0:Array Value,((mo=none∧a.eval x=.slice none 0 0∧n=0)∨∃ b c,mo=some (b,c)∧a.eval x=.slice (some ⟨b,0,none⟩) n c∧w.heap[b]?=some (.cells cs0 te (0,0))∧cs0.size=c * inf.size∧n≤c∧c≤maxLen)∧
   (mo=none→ds=[])∧ds.length=n * inf.size∧(mo≠none→DataR w (ownZ Z hp M) cs0 ds):=by
  cases mo with
  | none=>
   obtain⟨rfl,rfl⟩:=hob
   refine⟨#[],.inl ⟨rfl,?_,rfl⟩,fun _=>rfl,by simp,fun h=>absurd rfl h⟩
   generalize a.eval x=vx at hvx
   cases hvx with
   | sl h _ _=>rw[hMid] at h;cases h
   | slnil h=>rfl
  | some bc=>
   obtain⟨b,c⟩:=bc
   obtain⟨hdl,cs,hb,hcs,hnc,hcm,hcr⟩:=hob
   refine⟨cs,.inr ⟨b,c,rfl,?_,hb,by rw[hcs,e2],hnc,hcm⟩,(fun h=>by cases h),by rw[hdl,e2],fun _=>hcr⟩
   generalize a.eval x=vx at hvx
   cases hvx with
   | sl h _ _=>rw[hMid] at h;cases h;rfl
   | slnil h=>rw[hMid] at h;cases h
 obtain⟨cs0,hrow1,hrow2,hrow3,hrow4⟩:=hrow
 have hcore:=Kmc (P:=P) (tyo:=ty) (s:=s) mo u1 u3 e1 e4 hzs (by rw[e2];exact hz1) hrow1 (by rw[hmm];exact hm) (by rw[hmm,e3];exact hb)
 rw[hmm,hnw] at hcore
 obtain⟨v',w',mo',hrun,g1,g2,g3,g4,hres⟩:=hcore
 have hMold:∀ i,i<M.l.length→(M.app [mo']).l[i]?=M.l[i]?:=fun i hi=>gAl hi
 have hMnew:(M.app [mo']).l[hp.length]?=some mo':=by rw[←hr.heap.len];simp
 have hcase:∀ (i:Nat) (o:Ob),(hp.set id .dead++[.row te i2.size (n+m) (ds++ys)])[i]?=some o→(i<hp.length∧i≠id∧hp[i]?=some o)∨(i=id∧o=.dead)∨(i=hp.length∧o=.row te i2.size (n+m) (ds++ys)):=fun i o h=>by
  by_cases hi:i<hp.length
  ·rw[gAl (by simpa using hi)] at h
   by_cases hii:i=id
   ·subst hii;simp[hid] at h;exact .inr (.inl ⟨rfl,h.symm⟩)
   ·rw[gSn (Ne.symm hii)] at h;exact .inl ⟨hi,hii,h⟩
  ·rw[gAr (by simp;omega)] at h
   simp only[List.length_set] at h
   have h0:i - hp.length=0:=by
    cases hk:i - hp.length with
    | zero=>rfl
    | succ k=>rw[hk] at h;simp at h
   rw[h0] at h
   simp at h
   exact .inr (.inr ⟨by omega,h.symm⟩)
 have hlive:∀ (c:Nat) (b:Nat),mo=some (b,c)→obOwn hp M b:=fun c b e=>⟨id,_,c,ho,rfl,by rw[hMid,e]⟩
 have hkeep:∀ b,b<w.heap.size→¬ own hp M b→w'.heap[b]?=w.heap[b]?:=fun b hb hn=>by
  rcases hres with⟨_,_,_,rfl,_⟩ | ⟨b',c',cur,r1,r2,r3,r4,r5,r6,r7,r8,r9,r10⟩
  ·rfl
  ·refine r9 b hb fun e=>?_
   subst e
   rcases r10 with⟨c,hc⟩ | h
   ·exact hn (.inl (hlive c b hc))
   ·omega
 have hobo:∀ b,b<w.heap.size→obOwn (hp.set id .dead++[.row te i2.size (n+m) (ds++ys)]) (M.app [mo']) b→obOwn hp M b:=by
  rintro b hb ⟨i,o,c,h1,h2,h3⟩
  rcases hcase i o h1 with⟨e1,e2,e3⟩ | ⟨rfl,rfl⟩ | ⟨rfl,rfl⟩
  ·rw[hMold i (by rw[hr.heap.len];exact e1)] at h3
   exact⟨i,o,c,e3,h2,h3⟩
  ·cases h2
  ·rw[hMnew] at h3
   rcases hres with⟨r1,_⟩ | ⟨b',c',cur,r1,r2,r3,r4,r5,r6,r7,r8,r9,r10⟩
   ·rw[r1] at h3;cases h3
   ·rw[r1] at h3
    cases h3
    rcases r10 with⟨c,hc⟩ | h
    ·exact hlive c b hc
    ·omega
 have hbg:∀ (i:Nat) (al:List Bool) (ar:List Ar) (lt:List (Nat×Nat)),(hp.set id .dead++[.row te i2.size (n+m) (ds++ys)])[i]?=some (.bag al ar lt)→hp[i]?=some (.bag al ar lt):=fun i al ar lt h=>Kpf rfl i al ar lt (Kpg rfl i al ar lt h)
 have htags:KeepT hp M w w':=fun x hx hno=>by
  rcases hres with⟨_,_,_,rfl,_⟩ | ⟨b',c',cur,r1,r2,r3,r4,r5,r6,r7,r8,r9,r10⟩
  ·rfl
  ·refine r9 x.b (hr.heap.bags.tgs x hx).1 fun e=>?_
   rcases r10 with⟨c,hc⟩ | h
   ·exact hno (e▸hlive c b' hc)
   ·have:=(hr.heap.bags.tgs x hx).1;omega
 have hst:Stp w (own hp M) w' (own (hp.set id .dead++[.row te i2.size (n+m) (ds++ys)]) (M.app [mo'])):=.mk' g1 hkeep (fun b hb h=>Kpe h (hobo b hb) (fun g=>g.of hbg) rfl) g2 g3 g4 rfl (fun g=>g.of hbg) (hr.heap.bags.ht htags)
 have hob':∀ i o c b,i≠id→hp[i]?=some o→o.live=true→M.l[i]?=some (some (b,c))→w'.heap[b]?=w.heap[b]?:=fun i o c b hi h1 h2 h3=>by
  have hlt:=hr.heap.block_ob ⟨i,o,c,h1,h2,h3⟩
  rcases hres with⟨_,_,_,rfl,_⟩ | ⟨b',c',cur,r1,r2,r3,r4,r5,r6,r7,r8,r9,r10⟩
  ·rfl
  ·refine r9 b hlt fun e=>?_
   subst e
   rcases r10 with⟨c2,hc⟩ | h
   ·exact hi (hr.heap.inj i id o _ b c c2 h1 ho h2 rfl h3 (by rw[hMid,hc]))
   ·omega
 have hnew:∀ i o b c,i≠id→hp[i]?=some o→o.live=true→M.l[i]?=some (some (b,c))→∀ c',mo'=some (b,c')→False:=fun i o b c hi h1 h2 h3 c' he=>by
  have hlt:=hr.heap.block_ob ⟨i,o,c,h1,h2,h3⟩
  rcases hres with⟨r1,_⟩ | ⟨b',c2,cur,r1,r2,r3,r4,r5,r6,r7,r8,r9,r10⟩
  ·rw[r1] at he;cases he
  ·rw[r1] at he
   cases he
   rcases r10 with⟨c3,hc⟩ | h
   ·exact hi (hr.heap.inj i id o _ b c c3 h1 ho h2 rfl h3 (by rw[hMid,hc]))
   ·omega
 refine⟨v',w',M.app [mo'],?_,⟨by simp[hr.heap.len],fun i o m' h1 h2=>?_,fun b hb hz=>?_,fun b hz=>nLl (hr.heap.old b hz) g1,hr.heap.amb_stp hst,fun i j oi oj b c c' hi hj li lj mi mj=>?_,hr.heap.bags.mono rfl g1 hobo hbg⟩,?_,hst,⟨by simp[hr.heap.len],fun i hi=>hMold i (by rw[hr.heap.len];exact hi)⟩⟩
 ·simp[execOp,resolve,invoke,builtin,hyv,hrun]
 ·rcases hcase i o h1 with⟨e1',e2',e3'⟩ | ⟨rfl,rfl⟩ | ⟨rfl,rfl⟩
  ·rw[hMold i (by rw[hr.heap.len];exact e1')] at h2
   have hob:=hr.heap.obj i o m' e3' h2
   exact hob.move (k:=M.l.length) (Kpj Z hst) hMold hob.bel (fun b c e hl2=>by subst e;exact hob' i o c b e2' e3' hl2 h2) (hr.heap.bags.kp htags rfl e3')
  ·cases m'<;>trivial
  ·rw[hMnew] at h2
   cases h2
   rcases hres with⟨rfl,r2,r3,r4,rfl⟩ | ⟨b',c',cur,rfl,r2,r3,r4,r5,r6,r7,r8,r9,r10⟩
   ·have:ds=[]:=hrow2 rfl
    have hm0:m=0:=by omega
    subst hm0
    have:ys=[]:=List.eq_nil_of_length_eq_zero (by simpa using hl)
    subst this
    exact⟨by simp[*],r3⟩
   ·refine⟨by rw[List.length_append,hrow3,hl,e2,Nat.add_mul],cur,r3,by rw[r4,e2],r5,r6,fun j dd hj=>?_⟩
    by_cases hjn:j<ds.length
    ·rw[gAl hjn] at hj
     have hmo:mo≠none:=fun e=>by have:=hrow2 e;subst this;simp at hjn
     obtain⟨v,f1,f2⟩:=hrow4 hmo j dd hj
     exact⟨v,by rw[r7 j (by rw[←hrow3];exact hjn) hmo];exact f1,f2.step (Kpj Z hst)⟩
    ·rw[gAr (by omega)] at hj
     have hlt:j - ds.length<news.length:=by rw[hsrc2];exact(gEs.1 hj).1
     have hn:=gGe hlt
     refine⟨news[j - ds.length],?_,(hsrc3 _ _ dd hn hj).step (Kpj Z hst)⟩
     have:=r8 _ _ hn
     rw[←hrow3] at this
     rw[←this]
     congr 1
     omega
 ·by_cases hb':b<w.heap.size
  ·exact hr.heap.apart b (hst.own b hb' hb) hz
  ·exact absurd (hr.heap.old b hz) hb'
 ·rcases hcase i oi hi with⟨a1,a2,a3⟩ | ⟨rfl,rfl⟩ | ⟨rfl,rfl⟩
  ·rw[hMold i (by rw[hr.heap.len];exact a1)] at mi
   rcases hcase j oj hj with⟨b1,b2,b3⟩ | ⟨rfl,rfl⟩ | ⟨rfl,rfl⟩
   ·rw[hMold j (by rw[hr.heap.len];exact b1)] at mj
    exact hr.heap.inj i j oi oj b c c' a3 b3 li lj mi mj
   ·cases lj
   ·rw[hMnew] at mj
    exact(hnew i oi b c a2 a3 li mi c' (by cases mj;rfl)).elim
  ·cases li
  ·rw[hMnew] at mi
   rcases hcase j oj hj with⟨b1,b2,b3⟩ | ⟨rfl,rfl⟩ | ⟨rfl,rfl⟩
   ·rw[hMold j (by rw[hr.heap.len];exact b1)] at mj
    exact(hnew j oj b c' b2 b3 lj mj c (by cases mi;rfl)).elim
   ·cases lj
   ·rfl
 ·rcases hres with⟨rfl,rfl,r3,r4,rfl⟩ | ⟨b',c',cur,rfl,rfl,r3,r4,r5,r6,r7,r8,r9,r10⟩
  ·rw[r3];exact .slnil hMnew
  ·exact .sl hMnew r5 r6
theorem Kme{f:FuncId}{fn:Func}{c:Code}{gs:List G}{R:G→List Ob→Prop}(fr0:Fr)(hf:P.funcs[f]?=some fn)(hb:fn.body=some c)
  (hfr:∀ t g,fr0.get t=some g→gs[t]?=some g) (hN:gs.length≤fn.ntmps)
  (h:HB hp.length hp→EW P hp.length fn.ntmps c (fun e fr hp'=>Cv hp.length fn.ntmps (fun fr2 hp2=>Ret P fn hp.length R e fr2 hp2) fr hp') fr0 hp):EC P f gs hp R:=
 Kpz fr0 hf hb hfr hN fun hb'=>by
  intro Z w0 O0 M0 w M a hs ha hr
  refine wp_mono (h hb' Z w0 O0 M0 w M a hs ha hr) ?_
  rintro e a w' ⟨fr',hp',M',q,r1,r2,r3⟩
  obtain⟨fr3,hp3,M3,k0,k1,k2,k3⟩:=q Z w' M' a r1
  exact⟨fr3,hp3,M3,k0,k1,r2.trans k2,k3 M0 r3⟩
end
end Go.Gk
