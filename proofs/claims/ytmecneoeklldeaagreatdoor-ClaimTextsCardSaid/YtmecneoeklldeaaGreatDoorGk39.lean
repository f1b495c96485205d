import Derived.Test.YtmecneoeklldeaaGreatDoorGk33
import Derived.MapKept
import Derived.Maps.RangeRun
import Derived.Sort.Grow
set_option linter.all false
namespace Go.Gk
def zeroX(ks:List Nat)(i:TI):List G:=i.zero.cells.toList.mapIdx fun j c=>.d (bif ks.contains j then .v c else nilD c)
def G.forg(id:Nat)(g:G):G:=bif g.has id then .junk else g
def Ob.forg(id:Nat):Ob→Ob
 | .box t gs=>.box t (gs.map (G.forg id))
 | o=>o
section
variable{P:Program}{Γ:TypeId→Option TI}{F N:Nat}{Q:GPost}{fr fr':Fr}{hp hp':List Ob}{ks:List Kt}
variable{α:Type}{enc:α→List D}{ops:Array Oper}{rest:List Oper}{g:G}
variable{d:Tmp}{op:Op}{ty:TypeId}{pos:String}{after:Array Edge}{gd':Option (Nat×Bool)}
theorem Kkc{Z:Env}{w:World}{M:Mp}{ks:List Nat}{i:TI}(hz:(i.zero.cells.toList.all (·.oneCell'))=true)(j:Nat)(g:G)(hj:(zeroX ks i)[j]?=some g) :
  ∃ c:Value,i.zero.cells[j]?=some c∧c.oneCell'=true∧VR w (ownZ Z hp M) M g c:=by
 simp only[zeroX,List.getElem?_mapIdx] at hj
 obtain⟨c,hc,rfl⟩:=oMs.1 hj
 have h1:=lAe.1 hz c (mOg hc)
 refine⟨c,by simpa using hc,h1,.d ?_⟩
 cases ks.contains j with
 | true=>exact .v c h1
 | false=>exact Knh c h1
theorem Kkd(hΓ:TOK P Γ)(ks:List Nat){t:TypeId}{fs:Array Field}{i1:TI}{parts:Array (Nat×Operand)}{pg:List (Nat×G)}{gs:List G}(h1:Γ t=some i1)(h1':i1.desc=.struct fs)(hfs:(fs.toList.all fun f=>(Γ f.type).isSome)=true)
  (hz:(i1.zero.cells.toList.all (·.oneCell'))=true) (hp':evParts fr parts.toList=some pg) (hf:fillG (placesG Γ fs) (zeroX ks i1) pg=some gs)
  : OpP P N ⟨some d,.build t parts,ty,pos,after,gd'⟩ fr hp (.agg gs):=by
 intro Z w M a hr
 obtain⟨u1,inf,e1,e2,e3,e4⟩:=hΓ t _ h1
 rw[h1'] at u1
 obtain⟨r,p1,p2⟩:=Kef (P:=P) (w:=w) hΓ fs.toList fun f hf=>lAe.1 hfs f hf
 have hpl:(fun i=>(r.toArray)[i]?)=placesG Γ fs:=by
  funext i
  rw[List.getElem?_toArray,p2 i]
  simp[placesG]
 have hpl':(fun i=>r[i]?)=placesG Γ fs:=by rw[←hpl];funext i;simp
 obtain⟨cs',r1,r2,r3,r4⟩:=Kdz (place:=placesG Γ fs) (cs:=i1.zero.cells) hr parts.toList hp' hf (by simp[zeroX]) (fun j g hj=>Kkc hz j g hj)
 refine⟨.agg cs',?_,.agg r2 fun j g v hg hv=>?_⟩
 ·have hm:(fs.mapM fun f=>(Prod.mk f.offset <$> sizeOf f.type:Sem (Nat×Nat))).run P w=.ok r.toArray w:=by
   rw[Array.mapM_eq_mapM_toList]
   simp[p1]
  simp[execOp,Instr.build,zeroValue,typeInfo,e1,e4,run_underlying u1,hm]
  rw[←hpl'] at r1
  simp[r1]
 ·obtain⟨v',f1,f2,f3⟩:=r4 j g hg
  rw[hv] at f1
  cases f1
  exact f3
theorem Kke{Z:Env}{w:World}{M:Mp}(te:TypeId)(sz:Nat)(hr:RelH Z hp M w) :
  RelH Z (hp++[.row te sz 0 []]) (M.app [none]) w∧Stp w (own hp M) w (own (hp++[.row te sz 0 []]) (M.app [none]))∧Agr hp.length M (M.app [none]):=by
 have hM:∀ i,i<M.l.length→(M.app [none]).l[i]?=M.l[i]?:=fun i hi=>gAl hi
 have hob:∀ b,obOwn (hp++[.row te sz 0 []]) (M.app [none]) b→obOwn hp M b:=by
  rintro b ⟨i,o,c,h1,h2,h3⟩
  rcases Kor h3 with⟨hi,h4⟩ | ⟨hi,h4⟩
  ·rw[gAl (by rw[←hr.len];exact hi)] at h1
   exact⟨i,o,c,h1,h2,h4⟩
  ·cases h4
 have hown:∀ b,own (hp++[.row te sz 0 []]) (M.app [none]) b→own hp M b:=fun b h=>Kml h (hob b) (fun g=>g.of (Kmn rfl)) rfl
 have hst:Stp w (own hp M) w (own (hp++[.row te sz 0 []]) (M.app [none])):=.still (fun b _ h=>hown b h) rfl fun g=>g.of (Kmn rfl)
 refine⟨⟨by simp[hr.len],fun i o m h1 h2=>?_,fun b hb hz=>hr.apart b (hown b hb) hz,hr.old,hr.amb,fun i j oi oj b c c' hi hj li lj mi mj=>?_,hr.bags.mono rfl (Nat.le_refl _) (fun b _=>hob b) (Kmn rfl)⟩,hst,⟨by simp[hr.len],fun i hi=>hM i (by rw[hr.len];exact hi)⟩⟩
 ·rcases Kor h1 with⟨hi,h3⟩ | ⟨hi,rfl⟩
  ·rw[hM i (by rw[hr.len];exact hi)] at h2
   have:=hr.obj i o m h3 h2
   exact this.move (k:=M.l.length) (Kmq Z hst) hM this.bel (fun _ _ _ _=>rfl) (fun _ _ _ _=>⟨rfl,fun _ _ _=>rfl⟩)
  ·subst hi
   rw[←hr.len] at h2
   rcases Kor h2 with⟨hi,_⟩ | ⟨_,h⟩
   ·omega
   ·subst h;exact⟨rfl,rfl⟩
 ·rcases Kor mi with⟨hi1,hi2⟩ | ⟨_,hi2⟩
  ·rcases Kor mj with⟨hj1,hj2⟩ | ⟨_,hj2⟩
   ·rw[gAl (by rw[←hr.len];exact hi1)] at hi
    rw[gAl (by rw[←hr.len];exact hj1)] at hj
    exact hr.inj i j oi oj b c c' hi hj li lj hi2 hj2
   ·cases hj2
  ·cases hi2
theorem Kkf(te:TypeId)(sz k:Nat){o:Oper}{gs:List G}(h:OpS P N o fr hp (.agg gs) hp')(hk:gs[k]?=some (.d (.v (.slice none 0 0)))) :
  OpS P N o fr hp (.agg (gs.set k (.sl hp'.length 0))) (hp'++[.row te sz 0 []]):=by
 intro Z w M a hr
 obtain⟨v,w',M',hrun,h1,h2,h3,h4⟩:=h Z w M a hr
 obtain⟨k1,k2,k3⟩:=Kke te sz h1
 have hM:∀ i,i<M'.l.length→(M'.app [none]).l[i]?=M'.l[i]?:=fun i hi=>gAl hi
 have hle:hp.length≤hp'.length:=by rw[←h1.len];exact h4.le
 refine⟨v,w',M'.app [none],hrun,k1,?_,h3.trans k2,h4.trans k3 hle⟩
 cases h2 with
 | agg hl ih=>
  refine .agg (by simpa using hl) fun j g v hg hv=>?_
  by_cases hjk:k=j
  ·subst hjk
   have hlt:k<gs.length:=(gEs.1 hk).1
   rw[gSs hlt] at hg
   cases hg
   have:=ih k _ v hk hv
   rw[vr_v this]
   exact .slnil (by rw[←h1.len];simp)
  ·rw[gSn hjk] at hg
   exact(ih j g v hg hv).step (Kmq Z k2) hM
theorem VR.forg{w:World}{O:Ow}{M:Mp}(id:Nat){g:G}{v:Value}(h:VR w O M g v):VR w O M (g.forg id) v:=by
 unfold G.forg
 cases g.has id with
 | true=>exact .junk v
 | false=>exact h
theorem Kkg{Z:Env}{w:World}{M:Mp}(id:Nat)(hr:RelH Z hp M w) :
  RelH Z (hp.map (Ob.forg id)) M w∧Stp w (own hp M) w (own (hp.map (Ob.forg id)) M):=by
 have lv:∀ o:Ob,(o.forg id).live=o.live:=fun o=>by cases o<;>rfl
 have hold:∀ (i:Nat) (o:Ob),(hp.map (Ob.forg id))[i]?=some o→∃ o0,hp[i]?=some o0∧o=o0.forg id:=fun i o h=>by
  rw[gMp] at h
  obtain⟨o0,h1,h2⟩:=oMs.1 h
  exact⟨o0,h1,h2.symm⟩
 have hobo:∀ b,obOwn (hp.map (Ob.forg id)) M b→obOwn hp M b:=by
  rintro b ⟨i,o,c,h1,h2,h3⟩
  obtain⟨o0,e1,rfl⟩:=hold i o h1
  exact⟨i,o0,c,e1,by rw[←lv o0];exact h2,h3⟩
 have hbg:∀ (i:Nat) (al:List Bool) (ar:List Ar) (lt:List (Nat×Nat)),(hp.map (Ob.forg id))[i]?=some (.bag al ar lt)→hp[i]?=some (.bag al ar lt):=Kmo fun o al ar lt h=>by cases o<;>first | exact h | cases h
 have hown:∀ b,own (hp.map (Ob.forg id)) M b→own hp M b:=fun b h=>Kml h (hobo b) (fun g=>g.of hbg) rfl
 have hst:Stp w (own hp M) w (own (hp.map (Ob.forg id)) M):=.still (fun b _ h=>hown b h) rfl fun g=>g.of hbg
 refine⟨⟨by simp[hr.len],fun i o m h1 h2=>?_,fun b hb hz=>hr.apart b (hown b hb) hz,hr.old,hr.amb,fun i j oi oj b c c' hi hj li lj mi mj=>?_,hr.bags.mono rfl (Nat.le_refl _) (fun b _=>hobo b) hbg⟩,hst⟩
 ·obtain⟨o0,e1,rfl⟩:=hold i o h1
  have hob:=hr.obj i o0 m e1 h2
  have hob':ObR w (ownZ Z (hp.map (Ob.forg id)) M) M o0 m:=hob.move (k:=M.l.length) (Kmq Z hst) (fun _ _=>rfl) hob.bel (fun _ _ _ _=>rfl) (fun _ _ _ _=>⟨rfl,fun _ _ _=>rfl⟩)
  cases o0 with
  | box tb gs=>
   match m,hob' with
   | some (b,c),⟨cs,e1,e2,hc⟩=>
    refine⟨cs,e1,by simpa using e2,fun j g hg=>?_⟩
    rw[gMp] at hg
    obtain⟨g0,hg0,rfl⟩:=oMs.1 hg
    obtain⟨v,f1,f2,f3⟩:=hc j g0 hg0
    exact⟨v,f1,f2,f3.forg id⟩
  | _=>exact hob'
 ·obtain⟨o1,e1,rfl⟩:=hold i oi hi
  obtain⟨o2,e2,rfl⟩:=hold j oj hj
  exact hr.inj i j o1 o2 b c c' e1 e2 (by rw[←lv o1];exact li) (by rw[←lv o2];exact lj) mi mj
theorem Kkh(id:Nat):∀ Z w M a,Rel Z hp M w fr a N→∃ M',Rel Z (hp.map (Ob.forg id)) M' w fr a N∧Stp w (own hp M) w (own (hp.map (Ob.forg id)) M')∧Agr hp.length M M':=by
 intro Z w M a hr
 obtain⟨h1,h2⟩:=Kkg id hr.heap
 exact⟨M,⟨h1,fun t g h=>let ⟨v,e1,e2⟩:=hr.fr t g h;⟨v,e1,e2.step (Kmq Z h2) (fun _ _=>rfl)⟩,hr.size,hr.defers⟩,h2,⟨Nat.le_of_eq hr.heap.len.symm,fun _ _=>rfl⟩⟩
theorem Kki{l:List Oper}(id:Nat)(hp2:List Ob)(hhp:hp.map (Ob.forg id)=hp2)(hF:F≤hp.length)(k:EO P F N ops l Q fr hp2):EO P F N ops l Q fr hp:=by
 subst hhp
 exact Kpb hF (Kkh id) k
theorem Kkj{o:Oper}(id:Nat)(h:OpS P N o fr (hp.map (Ob.forg id)) g hp'):OpS P N o fr hp g hp':=by
 intro Z w M a hr
 obtain⟨M1,h1,h2,h3⟩:=Kkh id Z w M a hr
 obtain⟨v,w',M',hrun,k1,k2,k3,k4⟩:=h Z w M1 a h1
 exact⟨v,w',M',hrun,k1,k2,h2.trans k3,h3.trans k4 (by simp)⟩
end
end Go.Gk
namespace Go.Gk
section
variable{P:Program}{Γ:TypeId→Option TI}{F N:Nat}{Q:GPost}{fr fr':Fr}{hp hp':List Ob}{ks:List Kt}
variable{α:Type}{enc:α→List D}{ops:Array Oper}{rest:List Oper}{g:G}
variable{d:Tmp}{op:Op}{ty:TypeId}{pos:String}{after:Array Edge}{gd:Option (Nat×Bool)}
theorem Kkk(hΓ:TOK P Γ){t e:TypeId}{n:Nat}{i1 i2:TI}{x y:Operand}{gs:List G}(l:List α){z:α}{kd:IntKind}{k:Int}(hz:getZ l k=some z)(h1:Γ t=some i1)(h1':i1.desc=.array n e)(h2:Γ e=some i2)
  (hx:fr.ev x=some (.agg gs)) (hgs:gs=(l.flatMap enc).map G.d) (hn:n=l.length) (hy:fr.ev y=some (.d (.v (.int kd k)))) (henc:∀ y,(enc y).length=i2.size)
  (hg:(bif TypeDesc.isAgg i2.desc then some (.agg ((enc z).map G.d)) else((enc z).head?).map G.d)=some g):OpP P N ⟨some d,.index t x y,ty,pos,after,gd⟩ fr hp g:=fun Z w M a hr=>by
 obtain⟨i,rfl,hi,hz'⟩:=Kgi hz
 subst hgs
 obtain⟨u1,_⟩:=hΓ t _ h1
 rw[h1'] at u1
 have hs:=run_size' (P:=P) (w:=w) hΓ h2
 have hvx:=hr.ev hx
 simp only[execOp,hr.ev_v hy]
 generalize a.eval x=vx at hvx
 have hdrop:(l.flatMap enc).drop (i * i2.size)=enc z++(l.drop (i+1)).flatMap enc:=by
  rw[←Kgu henc,List.drop_eq_getElem_cons hi,List.flatMap_cons]
  have:l[i]=z:=by rw[gGe hi] at hz';exact oSi hz'
  rw[this]
 have hpart:partG i2 ((l.flatMap enc).map G.d) (i * i2.size)=some g:=by
  unfold partG
  cases hb:TypeDesc.isAgg i2.desc with
  | true=>
   rw[hb] at hg
   simp only[cond_true] at hg ⊢
   rw[←hg,←List.map_drop,hdrop,List.map_append,List.take_append_of_le_length (by simp[henc]),List.take_of_length_le (by simp[henc])]
  | false=>
   rw[hb] at hg
   simp only[cond_false] at hg ⊢
   rw[←List.map_drop,hdrop]
   cases hen:enc z with
   | nil=>rw[hen] at hg;cases hg
   | cons c cs=>rw[hen] at hg;exact hg
 have hin:i<n:=by omega
 cases hvx with
 | agg hl hr'=>
  obtain⟨v,e1,e2⟩:=Knz (w:=w) (hp:=hp) (M:=M) (Z:=Z) hΓ h2 (VR.agg hl hr') hpart
  refine⟨v,?_,e2⟩
  have:(0:Int)≤(i:Int)∧(i:Int)<(n:Int):=by omega
  simp[Instr.index,asIntOf,run_underlying u1,hs,this,e1,hin]
theorem Kkl(hΓ:TOK P Γ){t e:TypeId}{n:Nat}{i1 i2:TI}{parts:Array (Nat×Operand)}{pg:List (Nat×G)}{gs:List G}(h1:Γ t=some i1)(h1':i1.desc=.array n e)(h2:Γ e=some i2)
  (hz:(i1.zero.cells.toList.all (·.oneCell'))=true) (hp':evParts fr parts.toList=some pg) (hf:fillG (fun i=>some (i * i2.size,i2.size)) (zeroG i1) pg=some gs)
  : OpP P N ⟨some d,.build t parts,ty,pos,after,gd⟩ fr hp (.agg gs):=by
 intro Z w M a hr
 obtain⟨u1,inf,e1,e2,e3,e4⟩:=hΓ t _ h1
 rw[h1'] at u1
 have hs:=run_size' (P:=P) (w:=w) hΓ h2
 obtain⟨cs',r1,r2,r3,r4⟩:=Kdz (place:=fun i=>some (i * i2.size,i2.size)) (cs:=i1.zero.cells) hr parts.toList hp' hf (by simp[zeroG]) (fun j g hj=>by
  simp only[zeroG,List.getElem?_map] at hj
  obtain⟨c,hc,rfl⟩:=oMs.1 hj
  exact⟨c,by simpa using hc,lAe.1 hz c (mOg hc),.d (Knh c (lAe.1 hz c (mOg hc)))⟩)
 refine⟨.agg cs',?_,.agg r2 fun j g v hg hv=>?_⟩
 ·simp[execOp,Instr.build,zeroValue,typeInfo,e1,e4,run_underlying u1,hs]
  simp[r1]
 ·obtain⟨v',f1,f2,f3⟩:=r4 j g hg
  rw[hv] at f1
  cases f1
  exact f3
end
end Go.Gk
namespace Go.Gk
def mGet{K V:Type}[BEq K](m:List (K×V))(k:K):Option V:=(m.find? fun e=>k==e.1).map (·.2)
class KLt (K:Type) where
 lt:K→K→Bool
instance:KLt (List UInt8):=⟨Op.bytesLess⟩
instance:KLt Int:=⟨fun a b=>decide (a<b)⟩
instance(priority:=low){K:Type}:KLt K:=⟨fun _ _=>false⟩
def mIns{K V:Type}[KLt K](k:K)(v:V):List (K×V)→List (K×V)
 | []=>[(k,v)]
 | e :: m=>bif KLt.lt k e.1 then(k,v) :: e :: m else e :: mIns k v m
def mSet{K V:Type}[BEq K][KLt K](m:List (K×V))(k:K)(v:V):List (K×V):=match m.findIdx? (fun e=>k==e.1) with
 | some i=>m.set i (k,v)
 | none=>mIns k v m
abbrev mObS{K V:Type}(kv:K→Value)(agg:Bool)(enc:V→List D)(m:List (K×V))(st:Option (List (Value×List D)×List Nat×Nat)):Ob:=.map agg (m.map fun e=>(kv e.1,enc e.2)) st
abbrev mOb{K V:Type}(kv:K→Value)(agg:Bool)(enc:V→List D)(m:List (K×V)):Ob:=mObS kv agg enc m none
abbrev kS(s:List UInt8):Value:=.string ⟨s.toArray⟩
abbrev kI(k:IntKind)(n:Int):Value:=.int k n
structure KeyOk{K:Type}[BEq K](d:TypeDesc)(kv:K→Value):Prop where
 same:∀ a b:K,Instr.sameNow d (kv a) (kv b)=some (a==b)
 bits:∀ a b:K,(a==b)=true→Instr.sameBits 10000 (kv b) (kv a)=true
 key:∀ a:K,MapKept.IsKey d (kv a)
 eq:∀ a b:K,(a==b)=true→a=b
 refl:∀ a:K,(a==a)=true
theorem Kkm(k:IntKind):KeyOk (K:=Int) (.int k) (kI k):=⟨fun a b=>by simp[Instr.sameNow,kI],fun a b h=>by
  obtain rfl:a=b:=by simpa using h
  simp[Instr.sameBits,kI],fun a=>by simp[MapKept.IsKey,kI],fun a b h=>by simpa using h,fun a=>by simp⟩
theorem Kkn{K V:Type}[BEq K]{d:TypeDesc}{kv:K→Value}(hK:KeyOk d kv)(k:K):∀ (l:List MapEntry) (m:List (K×V)) (i:Nat),l.length=m.length→(∀ (j:Nat) (e:MapEntry) (x:K×V),l[j]?=some e→m[j]?=some x→e.key=kv x.1)→
  Instr.findNow d (kv k) l i=some ((m.findIdx? fun e=>k==e.1).bind fun j=>(l[j]?).map fun e=>(i+j,e.val))
 | [],[],i,_,_=>rfl
 | e :: l,x :: m,i,hl,hk=>by
  have ih:=Kkn hK k l m (i+1) (by simpa using hl) fun j e x he hx=>hk (j+1) e x (by simpa using he) (by simpa using hx)
  have h0:=hk 0 e x (by simp) (by simp)
  simp only[Instr.findNow,h0,hK.same,List.findIdx?_cons]
  cases hb:(k==x.1) with
  | true=>simp
  | false=>
   simp only[ih]
   cases m.findIdx? fun e=>k==e.1 with
   | none=>rfl
   | some j=>simp[Nat.add_assoc,Nat.add_comm 1 j]
 | [],_ :: _,_,h,_=>by simp at h
 | _ :: _,[],_,h,_=>by simp at h
def zD(v:Value):List D:=v.cells.toList.map nilD
def isAggV:Value→Bool
 | .agg _=>true
 | _=>false
def dG(agg:Bool)(ds:List D):Option G:=match agg with
 | true=>some (.agg (ds.map G.d))
 | false=>match ds with
  | [d]=>some (.d d)
  | _=>none
section
variable{P:Program}{Γ:TypeId→Option TI}{F N:Nat}{Q:GPost}{fr fr':Fr}{hp hp':List Ob}{ks:List Kt}
variable{ops:Array Oper}{rest:List Oper}{g:G}
variable{d:Tmp}{op:Op}{ty:TypeId}{pos:String}{after:Array Edge}{gd:Option (Nat×Bool)}
variable{K V:Type}[BEq K][KLt K]{kv:K→Value}{agg:Bool}{enc:V→List D}
def Apart(kv:K→Value)(m:List (K×V)):Prop:=m.Pairwise fun x y=>kv x.1≠kv y.1
theorem Apart.one:∀ {m:List (K×V)},Apart kv m→∀ {x y:K×V},x∈m→y∈m→kv x.1=kv y.1→x=y
 | z :: m,h,x,y,hx,hy,e=>by
  have h1:=List.pairwise_cons.1 h
  rcases List.mem_cons.1 hx with hx1 | hx1
  ·rcases List.mem_cons.1 hy with hy1 | hy1
   ·rw[hx1,hy1]
   subst hx1;exact absurd e (h1.1 y hy1)
  rcases List.mem_cons.1 hy with hy1 | hy1
  ·subst hy1;exact absurd e.symm (h1.1 x hx1)
  exact Apart.one h1.2 hx1 hy1 e
structure MapAt(w:World)(O:Ow)(kv:K→Value)(agg:Bool)(enc:V→List D)(b:Nat)(m m':List (K×V))(st:Option (List (Value×List D)×List Nat×Nat))(ms:Array MapEntry)(cl:Nat):Prop where
 perm:m'.Perm m
 apart:Apart kv m'
 raw:∀ raw,st=some raw→raw=(m'.map (fun e=>(kv e.1,enc e.2)),ms.toList.map (·.born),cl)
 heap:w.heap[b]?=some (.map ms cl)
 size:ms.size=m'.length
 born:Born ms cl
 get:∀ (j:Nat) (x:K×V),m'[j]?=some x→∃ e:MapEntry,ms[j]?=some e∧e.key=kv x.1∧DV w O agg (enc x.2) e.val
theorem MapAt.find{w:World}{O:Ow}{b:Nat}{m m':List (K×V)}{st}{ms:Array MapEntry}{cl:Nat}(h:MapAt w O kv agg enc b m m' st ms cl){dd:TypeDesc}(hK:KeyOk dd kv)(k:K) :
  Instr.findNow dd (kv k) ms.toList 0=some ((m'.findIdx? fun e=>k==e.1).bind fun j=>(ms[j]?).map fun e=>(j,e.val)):=by
 have:=Kkn hK k ms.toList m' 0 (by simpa using h.size) (fun j e x he hj=>by
  obtain⟨e',e1,e2,_⟩:=h.get j x hj
  have:e=e':=by
   have he':ms[j]?=some e:=by simpa using he
   rw[e1] at he';exact(oSi he').symm
  rw[this];exact e2)
 rw[this]
 congr 2
 funext j
 simp
def runeS(n:Int):List UInt8:=(Utf8.encode n).data.toList
theorem Kko(hΓ:TOK P Γ){t t':TypeId}{i1 i2:TI}{x:Operand}{kd:IntKind}{n:Int}(h1:Γ t=some i1)(h1':i1.desc=.int kd)(h2:Γ t'=some i2)(h2':i2.desc=.string)(hx:fr.ev x=some (.d (.v (.int kd n)))) :
  OpP P N ⟨some d,.convert t t' x,ty,pos,after,gd⟩ fr hp (.d (.v (.string ⟨(runeS n).toArray⟩))):=fun Z w M a hr=>by
 obtain⟨u1,_⟩:=hΓ t _ h1
 rw[h1'] at u1
 obtain⟨u2,_⟩:=hΓ t' _ h2
 rw[h2'] at u2
 simp only[execOp,hr.ev_v hx]
 have e:(⟨(runeS n).toArray⟩:ByteArray)=Utf8.encode n:=by simp[runeS]
 refine⟨.string (Utf8.encode n),?_,by rw[e];exact .d (.v _ rfl)⟩
 simp[convert,run_underlying u1,run_underlying u2,Conv.intToString,asInt]
end
end Go.Gk
namespace Go.Gk
def Slf{α:Type}(enc:α→List D)(l:List α):D:=.rf l.length (l.flatMap enc)
inductive D.Le:D→D→Prop
 | refl (d:D):D.Le d d
 | rf (n:Nat) (xs:List D):D.Le (.rf n xs) (.ro n xs)
 | rt (te:TypeId) (sz t n:Nat) (xs:List D):D.Le (.rt te sz t n xs) (.ro n xs)
def Ds.Le:List D→List D→Prop
 | [],[]=>True
 | d :: r,d' :: r'=>D.Le d d'∧Ds.Le r r'
 | _,_=>False
theorem Ds.Le.get:∀ {l l':List D},Ds.Le l l'→l.length=l'.length∧∀ (j:Nat) (d':D),l'[j]?=some d'→∃ d,l[j]?=some d∧D.Le d d'
 | [],[],_=>⟨rfl,fun j d' h=>by simp at h⟩
 | d :: r,d' :: r',h=>by
  obtain⟨h1,h2⟩:=Ds.Le.get h.2
  refine⟨by simp[h1],fun j x hx=>?_⟩
  cases j with
  | zero=>simp at hx;subst hx;exact⟨d,rfl,h.1⟩
  | succ j=>simpa using h2 j x (by simpa using hx)
 | [],_ :: _,h=>h.elim
 | _ :: _,[],h=>h.elim
theorem Ds.Le.app:∀ {a a' b b':List D},Ds.Le a a'→Ds.Le b b'→Ds.Le (a++b) (a'++b')
 | [],[],_,_,_,h=>h
 | _ :: _,_ :: _,_,_,h1,h2=>⟨h1.1,Ds.Le.app h1.2 h2⟩
 | [],_ :: _,_,_,h,_=>h.elim
 | _ :: _,[],_,_,h,_=>h.elim
theorem Ds.Le.flat{α:Type}{e e':α→List D}(h:∀ x,Ds.Le (e x) (e' x)):∀ l:List α,Ds.Le (l.flatMap e) (l.flatMap e')
 | []=>trivial
 | x :: l=>by simp only[List.flatMap_cons];exact(h x).app (Ds.Le.flat h l)
section
variable{P:Program}{Γ:TypeId→Option TI}{F N:Nat}{Q:GPost}{fr fr':Fr}{hp hp':List Ob}{ks:List Kt}
variable{α:Type}{enc enc':α→List D}{ops:Array Oper}{rest:List Oper}{g:G}
variable{d:Tmp}{op:Op}{ty:TypeId}{pos:String}{after:Array Edge}{gd:Option (Nat×Bool)}
end
end Go.Gk
namespace Go.Gk
def rangeL{α σ:Type}(f:α→σ→Option σ):List α→σ→Option σ
 | [],s=>some s
 | x :: l,s=>match f x s with
  | some s'=>rangeL f l s'
  | none=>none
noncomputable def rangeP {α σ:Type} (f:α→σ→Option σ) (m:List α) (s:σ):Option σ:=
 open Classical in if h:∃ r,∀ m':List α,m'.Perm m→rangeL f m' s=some r then some (Classical.choose h) else none
def remL{α:Type}(l:List (α×Nat))(seen:List Nat):List α:=(l.filter fun e=>!seen.contains e.2).map (·.1)
section
variable{P:Program}{Γ:TypeId→Option TI}{F N:Nat}{Q:GPost}{fr fr':Fr}{hp hp':List Ob}{ks:List Kt}
variable{ops:Array Oper}{rest:List Oper}{g:G}
variable{d:Tmp}{op:Op}{ty:TypeId}{pos:String}{after:Array Edge}{gd:Option (Nat×Bool)}
variable{K V:Type}[BEq K][KLt K]{kv:K→Value}{agg:Bool}{enc:V→List D}
abbrev rawM(kv:K→Value)(enc:V→List D)(m':List (K×V))(bs:List Nat)(cl:Nat):Option (List (Value×List D)×List Nat×Nat):=some (m'.map (fun e=>(kv e.1,enc e.2)),bs,cl)
end
end Go.Gk
namespace Go.Gk
def strCells(s:List UInt8):List Value:=s.map fun b=>Value.int .u8 b.toNat
section
variable{P:Program}(w:World)
theorem Kkp(s:List UInt8):(Builtin.firstCells 1 s.length (.string ⟨s.toArray⟩)).run P w=.ok (strCells s).toArray w:=by
 simp[Builtin.firstCells,strCells]
 try (rw[Array.extract_eq_self_of_le (by simp)];simp)
theorem Kkq(t u ty e:TypeId)(i:TypeInfo)(ht:P.underlying t=some (.slice e))(hu:P.underlying u=some .string)(hi:P.info? e=some i)(h1s:i.size=1)
  (g sLen sCap:Nat) (cur:Array Value) (hg:w.heap[g]?=some (.cells cur e (0,0))) (s:List UInt8)
  (hroom:sLen+s.length≤sCap) (hfit:sLen+s.length≤cur.size) :
  (Builtin.append_ #[t,u] ty #[.slice (some ⟨g,0,none⟩) sLen sCap,.string ⟨s.toArray⟩]).run P w =
   .ok (.slice (some ⟨g,0,none⟩) (sLen+s.length) sCap) (w.setRow g (cur.toList.take sLen++strCells s++cur.toList.drop (sLen+s.length)).toArray):=by
 have hf:=Kkp (P:=P) w s
 have hst:=run_storeCells_at P g sLen e (strCells s) 0 cur w hg (by simpa [strCells] using hfit) (fun u hu=>by simp only[strCells,List.mem_map] at hu;obtain⟨b,_,rfl⟩:=hu;rfl)
 simp only[Nat.add_zero] at hst
 have hl:(strCells s).length=s.length:=by simp[strCells]
 rw[hl] at hst
 simp[Builtin.append_,run_underlying ht,run_underlying hu,sizeOf,typeInfo,hi,h1s,Builtin.lenOf,ByteArray.size,hroom,hf,Addr.add_lit,hst]
theorem Kkr(t u ty e:TypeId)(i:TypeInfo)(z:Value)(ht:P.underlying t=some (.slice e))(hu:P.underlying u=some .string)(hi:P.info? e=some i)(hz:i.zero=some z)(h1s:i.size=1)
  (b:Addr) (sLen sCap:Nat) (olds:List Value) (hlo:olds.length=sLen * i.size) (holds:∀ j v,olds[j]?=some v→w.cell? (b.add j)=some v) (s:List UInt8)
  (hg:sCap<sLen+s.length) (h63:((sLen+s.length:Nat):Int)≤9223372036854775807) (hfit:Builtin.nextslicecap (sLen+s.length) sCap * i.bytes≤281474976710656) :
  (Builtin.append_ #[t,u] ty #[.slice (some b) sLen sCap,.string ⟨s.toArray⟩]).run P w =
   .ok (.slice (some ⟨w.heap.size,0,none⟩) (sLen+s.length) (grownCap w (sLen+s.length) sCap e))
    (w.drew.alloc (.cells (olds.toArray++(strCells s).toArray++Builtin.zeroCells z.cells (grownCap w (sLen+s.length) sCap e - (sLen+s.length))) e)):=by
 have hn:¬ (sLen+s.length≤sCap):=by omega
 have h63':¬ (9223372036854775807<((sLen:Int)+(s.length:Int))):=by omega
 have h48':¬ (281474976710656<Builtin.nextslicecap (sLen+s.length) sCap * i.bytes):=by omega
 have hf:=Kkp (P:=P) w.drew s
 have hfo:=run_firstCells_some (P:=P) w.drew i.size sLen b sLen sCap olds hlo (by simpa using holds)
 rw[h1s] at hfo
 simp[Builtin.append_,run_underlying ht,run_underlying hu,sizeOf,typeInfo,zeroValue,hi,hz,h1s,Builtin.lenOf,ByteArray.size,hn,h63',h48',Question.forced,hf,hfo,newRow,grownCap]
 congr 2
 apply Array.ext'
 simp[List.append_assoc]
theorem run_append_nil_string'(t u ty e:TypeId)(i:TypeInfo)(z:Value)(ht:P.underlying t=some (.slice e))(hu:P.underlying u=some .string)(hi:P.info? e=some i)(hz:i.zero=some z)(h1s:i.size=1)
  (s:List UInt8) (h0:0<s.length) (h63:(s.length:Int)≤9223372036854775807) (h48:s.length * i.bytes≤281474976710656) :
  (Builtin.append_ #[t,u] ty #[.slice none 0 0,.string ⟨s.toArray⟩]).run P w =
   .ok (.slice (some ⟨w.heap.size,0,none⟩) s.length (grownCap w s.length 0 e))
    (w.drew.alloc (.cells ((strCells s).toArray++Builtin.zeroCells z.cells (grownCap w s.length 0 e - s.length)) e)):=by
 have hn:s.length≠0:=by omega
 have h63':¬ (9223372036854775807<(s.length:Int)):=by omega
 have h48':¬ (281474976710656<Builtin.nextslicecap s.length 0 * i.bytes):=by rw[nextslicecap_zero h0];omega
 have hf:=Kkp (P:=P) w.drew s
 have hf0:=run_firstCells_none (P:=P) w.drew 1 0 0 0
 simp[Builtin.append_,run_underlying ht,run_underlying hu,sizeOf,typeInfo,zeroValue,hi,hz,h1s,Builtin.lenOf,ByteArray.size,h63',h48',Question.forced,hf,hf0,newRow,grownCap]
 intro e
 simp[e] at h0
theorem Kks{w:World}{t tu te tyo:TypeId}{inf:TypeInfo}{z:Value}{n:Nat}{sv:Value}{cs0:Array Value}{s:List UInt8}(mo:Option (Nat×Nat))(hu:P.underlying t=some (.slice te))(hu':P.underlying tu=some .string)(hi:P.info? te=some inf)(hz:inf.zero=some z)(hzs:z.cells.size=inf.size)(hz1:inf.size=1)
  (hs:(mo=none∧sv=.slice none 0 0∧n=0)∨∃ b c,mo=some (b,c)∧sv=.slice (some ⟨b,0,none⟩) n c∧w.heap[b]?=some (.cells cs0 te (0,0))∧cs0.size=c * inf.size∧n≤c∧c≤maxLen)
  (hm:n+s.length≤maxLen) (hb:(n+s.length) * inf.bytes≤140737488355328) :
  ∃ v' w' mo',(Builtin.append_ #[t,tu] tyo #[sv,.string ⟨s.toArray⟩]).run P w=.ok v' w'∧w.heap.size≤w'.heap.size∧w'.os=w.os∧w'.tape=w.tape∧w'.output=w.output∧
   ((mo'=none∧v'=.slice none 0 0∧n+s.length=0∧w'=w∧mo=none)∨∃ b' c' cur,mo'=some (b',c')∧v'=.slice (some ⟨b',0,none⟩) (n+s.length) c'∧w'.heap[b']?=some (.cells cur te (0,0))∧cur.size=c' * inf.size∧n+s.length≤c'∧c'≤maxLen∧
    (∀ j,j<n * inf.size→mo≠none→cur[j]?=cs0[j]?)∧(∀ j u,(strCells s)[j]?=some u→cur[n * inf.size+j]?=some u)∧(∀ k,k<w.heap.size→k≠b'→w'.heap[k]?=w.heap[k]?)∧((∃ c,mo=some (b',c))∨b'=w.heap.size)):=by
 have hsmall:n+s.length≤9223372036854775807:=by simp only[maxLen] at hm;omega
 have hl:(strCells s).length=s.length * inf.size:=by rw[hz1];simp[strCells]
 have hz0:0<inf.size:=by omega
 have h1:∀ u∈strCells s,u.oneCell'=true:=fun u hu=>by simp only[strCells,List.mem_map] at hu;obtain⟨b,_,rfl⟩:=hu;rfl
 have hmn:n * inf.size=n:=by rw[hz1,Nat.mul_one]
 generalize hnw:strCells s=news at *
 generalize hmm:s.length=m at *
 rcases hs with⟨rfl,rfl,rfl⟩ | ⟨b,c,rfl,rfl,hb',hcs,hnc,hcm⟩
 ·by_cases hm0:m=0
  ·subst hm0
   have hn:news=[]:=List.eq_nil_of_length_eq_zero (by simpa using hl)
   subst hn
   refine⟨.slice none 0 0,w,none,?_,Nat.le_refl _,rfl,rfl,rfl,.inl ⟨rfl,rfl,rfl,rfl,rfl⟩⟩
   have hs0:s=[]:=List.eq_nil_of_length_eq_zero hmm
   subst hs0
   simp[Builtin.append_,run_underlying hu,run_underlying hu',sizeOf,typeInfo,hi,Builtin.lenOf,ByteArray.size,Builtin.firstCells]
  ·have hr:=run_append_nil_string' (P:=P) w t tu tyo te inf z hu hu' hi hz hz1 s (by omega) (by omega) (by simp only[Nat.zero_add] at hb;rw[hmm];omega)
   rw[hmm,hnw] at hr
   have hge:=grownCap_ge w m 0 te
   have hcm:grownCap w m 0 te≤maxLen:=grownCap_le_maxLen w m 0 te (by omega)
   refine⟨_,_,some (w.heap.size,grownCap w m 0 te),hr,by simp,rfl,rfl,rfl,.inr ⟨w.heap.size,_,_,rfl,by simp,heap_alloc_new w.drew _,?_,by omega,hcm,fun j hj=>by simp at hj,fun j u hj=>?_,fun k hk hne=>Gk.Kdu w.drew _ k hk,.inr rfl⟩⟩
   ·simp only[Array.size_append,List.size_toArray,size_zeroCells,hzs,hl,←Nat.add_mul]
    congr 1
    omega
   ·have hlt:j<news.length:=(gEs.1 hj).1
    rw[Nat.zero_mul,Nat.zero_add,Array.getElem?_append_left (by simpa using hlt)]
    simpa using hj
 ·by_cases hroom:n+m≤c
  ·have hfit:n * inf.size+news.length≤cs0.size:=by rw[hl,hcs,←Nat.add_mul];exact Nat.mul_le_mul_right _ hroom
   have hr:=Kkq (P:=P) w t tu tyo te inf hu hu' hi hz1 b n c cs0 hb' s (by omega) (by rw[hmm];rw[hl,hz1,Nat.mul_one,Nat.mul_one] at hfit;exact hfit)
   rw[hmm,hnw] at hr
   rw[show cs0.toList.take n=cs0.toList.take (n * inf.size) from by rw[hmn],show cs0.toList.drop (n+m)=cs0.toList.drop (n * inf.size+news.length) from by rw[hmn,hl,hz1,Nat.mul_one]] at hr
   refine⟨_,_,some (b,c),hr,by simp,rfl,rfl,rfl,.inr ⟨b,c,_,rfl,rfl,setRow_heap w b cs0 _ te _ hb',?_,hroom,hcm,fun j hj _=>?_,fun j u hj=>?_,fun k _ hne=>setRow_other w b k _ hne,.inl ⟨c,rfl⟩⟩⟩
   ·simp only[List.size_toArray,List.length_append,List.length_take,List.length_drop,Array.length_toList]
    omega
   ·rw[List.getElem?_toArray,List.append_assoc,gAl (by simp;omega),List.getElem?_take_of_lt hj]
    simp
   ·have hlt:j<news.length:=(gEs.1 hj).1
    have e:(cs0.toList.take (n * inf.size)).length=n * inf.size:=by simp;omega
    rw[List.getElem?_toArray,List.append_assoc,gAr (by omega),e,gAl (by omega)]
    simpa using hj
  ·have holds:∀ j u,(cs0.toList.take (n * inf.size))[j]?=some u→w.cell? ((⟨b,0,none⟩:Addr).add j)=some u:=fun j u hj=>by
    rw[Addr.add_lit,Nat.zero_add,cell_of_row w b j cs0 te _ hb']
    rw[List.getElem?_take] at hj
    split at hj
    ·simpa using hj
    ·cases hj
   have hxl:(cs0.toList.take (n * inf.size)).length=n * inf.size:=by
    have:=Nat.mul_le_mul_right inf.size hnc
    simp;omega
   have hr:=Kkr (P:=P) w t tu tyo te inf z hu hu' hi hz hz1 ⟨b,0,none⟩ n c (cs0.toList.take (n * inf.size)) hxl holds s (by omega) (by omega) (by rw[hmm];exact growslice_fits (by omega) hb)
   rw[hmm,hnw] at hr
   have hge:=grownCap_ge w (n+m) c te
   have hcm:grownCap w (n+m) c te≤maxLen:=grownCap_le_maxLen w (n+m) c te hm
   refine⟨_,_,some (w.heap.size,grownCap w (n+m) c te),hr,by simp,rfl,rfl,rfl,.inr ⟨w.heap.size,_,_,rfl,rfl,heap_alloc_new w.drew _,?_,hge,hcm,fun j hj _=>?_,fun j u hj=>?_,fun k hk hne=>Gk.Kdu w.drew _ k hk,.inr rfl⟩⟩
   ·simp only[Array.size_append,List.size_toArray,size_zeroCells,hzs,hl,hxl,←Nat.add_mul]
    congr 1
    omega
   ·rw[Array.append_assoc,Array.getElem?_append_left (by simpa [hxl] using hj)]
    rw[List.getElem?_toArray,List.getElem?_take_of_lt hj]
    simp
   ·have hlt:j<news.length:=(gEs.1 hj).1
    rw[Array.append_assoc,Array.getElem?_append_right (by simp[hxl]),Array.getElem?_append_left (by simp[hxl];exact hlt)]
    simpa [hxl] using hj
end
def strD(s:List UInt8):List D:=s.map fun b=>D.v (.int .u8 b.toNat)
section
variable{P:Program}{Γ:TypeId→Option TI}{F N:Nat}{Q:GPost}{fr fr':Fr}{hp hp':List Ob}{ks:List Kt}
variable{α:Type}{enc:α→List D}{ops:Array Oper}{rest:List Oper}{g:G}
variable{d:Tmp}{op:Op}{ty:TypeId}{pos:String}{after:Array Edge}{gd':Option (Nat×Bool)}{t':TypeId}
theorem Kkt(hΓ:TOK P Γ){t tu te:TypeId}{i1 i2 i3:TI}{x y:Operand}{id n:Nat}{ds:List D}{s:List UInt8}(h1:Γ t=some i1)(h1':i1.desc=.slice te)(h2:Γ te=some i2)(h3:Γ tu=some i3)(h3':i3.desc=.string)(hz:Nat.beq i2.zero.cells.size i2.size=true)(hz1:i2.size=1)
  (hx:fr.ev x=some (.sl id n)) (ho:hp[id]?=some (.row te i2.size n ds)) (hy:fr.ev y=some (S s)) (hb:(n+s.length) * i2.bytes≤140737488355328) (hm:n+s.length≤maxLen) :
  OpS P N ⟨some d,.call ⟨.builtin .append,#[x,y],#[t,tu]⟩,ty,pos,after,gd'⟩ fr hp (.sl hp.length (n+s.length)) (hp.set id .dead++[.row te i2.size (n+s.length) (ds++strD s)]):=by
 intro Z w M a hr
 obtain⟨u1,_⟩:=hΓ t _ h1
 rw[h1'] at u1
 obtain⟨_,inf,e1,e2,e3,e4⟩:=hΓ te _ h2
 have hid:id<hp.length:=(gEs.1 ho).1
 have hidM:id<M.l.length:=by rw[hr.heap.len];exact hid
 have hzs:i2.zero.cells.size=inf.size:=by rw[e2];exact nEq hz
 have hvx:=hr.ev hx
 have hvy:=hr.ev hy
 have hob:=hr.heap.obj id _ _ ho (gGe hidM)
 generalize hmo:M.l[id]=mo at hob
 have hMid:M.l[id]?=some mo:=by rw[gGe hidM,hmo]
 obtain⟨u3,_⟩:=hΓ tu _ h3
 rw[h3'] at u3
 have hyv:a.eval y=.string ⟨s.toArray⟩:=by
  generalize a.eval y=vy at hvy
  cases hvy with
  | d hd=>cases hd;rfl
 have hl:(strD s).length=s.length * i2.size:=by rw[hz1];simp[strD]
 generalize hys:strD s=ys at hl
 generalize hnw:strCells s=news
 have hsrc2:news.length=ys.length:=by subst hys;subst hnw;simp[strCells,strD]
 have hsrc3:∀ (j:Nat) (u:Value) (d:D),news[j]?=some u→ys[j]?=some d→VD w (ownZ Z hp M) d u:=fun j u d h k=>by
  subst hys;subst hnw
  simp only[strCells,strD,List.getElem?_map,Option.map_eq_some_iff] at h k
  obtain⟨b1,f1,rfl⟩:=h
  obtain⟨b2,f2,rfl⟩:=k
  rw[f1] at f2;cases f2
  exact .v _ rfl
 generalize hmm:s.length=m at *
 have hrow:∃ cs0:Array Value,((mo=none∧a.eval x=.slice none 0 0∧n=0)∨∃ b c,mo=some (b,c)∧a.eval x=.slice (some ⟨b,0,none⟩) n c∧w.heap[b]?=some (.cells cs0 te (0,0))∧cs0.size=c * inf.size∧n≤c∧c≤maxLen)∧
   (mo=none→ds=[])∧ds.length=n * inf.size∧(mo≠none→DataR w (ownZ Z hp M) cs0 ds):=by
  cases mo with
  | none=>
   obtain⟨rfl,rfl⟩:=hob
   refine⟨#[],.inl ⟨rfl,?_,rfl⟩,fun _=>rfl,by simp,fun h=>absurd rfl h⟩
   generalize a.eval x=vx at hvx
   cases hvx with
   | sl h _ _=>rw[hMid] at h;cases h
   | slnil h=>rfl
  | some bc=>
   obtain⟨b,c⟩:=bc
   obtain⟨hdl,cs,hb,hcs,hnc,hcm,hcr⟩:=hob
   refine⟨cs,.inr ⟨b,c,rfl,?_,hb,by rw[hcs,e2],hnc,hcm⟩,(fun h=>by cases h),by rw[hdl,e2],fun _=>hcr⟩
   generalize a.eval x=vx at hvx
   cases hvx with
   | sl h _ _=>rw[hMid] at h;cases h;rfl
   | slnil h=>rw[hMid] at h;cases h
 obtain⟨cs0,hrow1,hrow2,hrow3,hrow4⟩:=hrow
 have hcore:=Kks (P:=P) (tyo:=ty) (s:=s) mo u1 u3 e1 e4 hzs (by rw[e2];exact hz1) hrow1 (by rw[hmm];exact hm) (by rw[hmm,e3];exact hb)
 rw[hmm,hnw] at hcore
 obtain⟨v',w',mo',hrun,g1,g2,g3,g4,hres⟩:=hcore
 have hMold:∀ i,i<M.l.length→(M.app [mo']).l[i]?=M.l[i]?:=fun i hi=>gAl hi
 have hMnew:(M.app [mo']).l[hp.length]?=some mo':=by rw[←hr.heap.len];simp
 have hcase:∀ (i:Nat) (o:Ob),(hp.set id .dead++[.row te i2.size (n+m) (ds++ys)])[i]?=some o→(i<hp.length∧i≠id∧hp[i]?=some o)∨(i=id∧o=.dead)∨(i=hp.length∧o=.row te i2.size (n+m) (ds++ys)):=fun i o h=>by
  by_cases hi:i<hp.length
  ·rw[gAl (by simpa using hi)] at h
   by_cases hii:i=id
   ·subst hii;simp[hid] at h;exact .inr (.inl ⟨rfl,h.symm⟩)
   ·rw[gSn (Ne.symm hii)] at h;exact .inl ⟨hi,hii,h⟩
  ·rw[gAr (by simp;omega)] at h
   simp only[List.length_set] at h
   have h0:i - hp.length=0:=by
    cases hk:i - hp.length with
    | zero=>rfl
    | succ k=>rw[hk] at h;simp at h
   rw[h0] at h
   simp at h
   exact .inr (.inr ⟨by omega,h.symm⟩)
 have hlive:∀ (c:Nat) (b:Nat),mo=some (b,c)→obOwn hp M b:=fun c b e=>⟨id,_,c,ho,rfl,by rw[hMid,e]⟩
 have hkeep:∀ b,b<w.heap.size→¬ own hp M b→w'.heap[b]?=w.heap[b]?:=fun b hb hn=>by
  rcases hres with⟨_,_,_,rfl,_⟩ | ⟨b',c',cur,r1,r2,r3,r4,r5,r6,r7,r8,r9,r10⟩
  ·rfl
  ·refine r9 b hb fun e=>?_
   subst e
   rcases r10 with⟨c,hc⟩ | h
   ·exact hn (.inl (hlive c b hc))
   ·omega
 have hobo:∀ b,b<w.heap.size→obOwn (hp.set id .dead++[.row te i2.size (n+m) (ds++ys)]) (M.app [mo']) b→obOwn hp M b:=by
  rintro b hb ⟨i,o,c,h1,h2,h3⟩
  rcases hcase i o h1 with⟨e1,e2,e3⟩ | ⟨rfl,rfl⟩ | ⟨rfl,rfl⟩
  ·rw[hMold i (by rw[hr.heap.len];exact e1)] at h3
   exact⟨i,o,c,e3,h2,h3⟩
  ·cases h2
  ·rw[hMnew] at h3
   rcases hres with⟨r1,_⟩ | ⟨b',c',cur,r1,r2,r3,r4,r5,r6,r7,r8,r9,r10⟩
   ·rw[r1] at h3;cases h3
   ·rw[r1] at h3
    cases h3
    rcases r10 with⟨c,hc⟩ | h
    ·exact hlive c b hc
    ·omega
 have hbg:∀ (i:Nat) (al:List Bool) (ar:List Ar) (lt:List (Nat×Nat)),(hp.set id .dead++[.row te i2.size (n+m) (ds++ys)])[i]?=some (.bag al ar lt)→hp[i]?=some (.bag al ar lt):=fun i al ar lt h=>Kmm rfl i al ar lt (Kmn rfl i al ar lt h)
 have htags:KeepT hp M w w':=fun x hx hno=>by
  rcases hres with⟨_,_,_,rfl,_⟩ | ⟨b',c',cur,r1,r2,r3,r4,r5,r6,r7,r8,r9,r10⟩
  ·rfl
  ·refine r9 x.b (hr.heap.bags.tgs x hx).1 fun e=>?_
   rcases r10 with⟨c,hc⟩ | h
   ·exact hno (e▸hlive c b' hc)
   ·have:=(hr.heap.bags.tgs x hx).1;omega
 have hst:Stp w (own hp M) w' (own (hp.set id .dead++[.row te i2.size (n+m) (ds++ys)]) (M.app [mo'])):=.mk' g1 hkeep (fun b hb h=>Kml h (hobo b hb) (fun g=>g.of hbg) rfl) g2 g3 g4 rfl (fun g=>g.of hbg) (hr.heap.bags.ht htags)
 have hob':∀ i o c b,i≠id→hp[i]?=some o→o.live=true→M.l[i]?=some (some (b,c))→w'.heap[b]?=w.heap[b]?:=fun i o c b hi h1 h2 h3=>by
  have hlt:=hr.heap.block_ob ⟨i,o,c,h1,h2,h3⟩
  rcases hres with⟨_,_,_,rfl,_⟩ | ⟨b',c',cur,r1,r2,r3,r4,r5,r6,r7,r8,r9,r10⟩
  ·rfl
  ·refine r9 b hlt fun e=>?_
   subst e
   rcases r10 with⟨c2,hc⟩ | h
   ·exact hi (hr.heap.inj i id o _ b c c2 h1 ho h2 rfl h3 (by rw[hMid,hc]))
   ·omega
 have hnew:∀ i o b c,i≠id→hp[i]?=some o→o.live=true→M.l[i]?=some (some (b,c))→∀ c',mo'=some (b,c')→False:=fun i o b c hi h1 h2 h3 c' he=>by
  have hlt:=hr.heap.block_ob ⟨i,o,c,h1,h2,h3⟩
  rcases hres with⟨r1,_⟩ | ⟨b',c2,cur,r1,r2,r3,r4,r5,r6,r7,r8,r9,r10⟩
  ·rw[r1] at he;cases he
  ·rw[r1] at he
   cases he
   rcases r10 with⟨c3,hc⟩ | h
   ·exact hi (hr.heap.inj i id o _ b c c3 h1 ho h2 rfl h3 (by rw[hMid,hc]))
   ·omega
 refine⟨v',w',M.app [mo'],?_,⟨by simp[hr.heap.len],fun i o m' h1 h2=>?_,fun b hb hz=>?_,fun b hz=>nLl (hr.heap.old b hz) g1,hr.heap.amb_stp hst,fun i j oi oj b c c' hi hj li lj mi mj=>?_,hr.heap.bags.mono rfl g1 hobo hbg⟩,?_,hst,⟨by simp[hr.heap.len],fun i hi=>hMold i (by rw[hr.heap.len];exact hi)⟩⟩
 ·simp[execOp,resolve,invoke,builtin,hyv,hrun]
 ·rcases hcase i o h1 with⟨e1',e2',e3'⟩ | ⟨rfl,rfl⟩ | ⟨rfl,rfl⟩
  ·rw[hMold i (by rw[hr.heap.len];exact e1')] at h2
   have hob:=hr.heap.obj i o m' e3' h2
   exact hob.move (k:=M.l.length) (Kmq Z hst) hMold hob.bel (fun b c e hl2=>by subst e;exact hob' i o c b e2' e3' hl2 h2) (hr.heap.bags.kp htags rfl e3')
  ·cases m'<;>trivial
  ·rw[hMnew] at h2
   cases h2
   rcases hres with⟨rfl,r2,r3,r4,rfl⟩ | ⟨b',c',cur,rfl,r2,r3,r4,r5,r6,r7,r8,r9,r10⟩
   ·have:ds=[]:=hrow2 rfl
    have hm0:m=0:=by omega
    subst hm0
    have:ys=[]:=List.eq_nil_of_length_eq_zero (by simpa using hl)
    subst this
    exact⟨by simp[*],r3⟩
   ·refine⟨by rw[List.length_append,hrow3,hl,e2,Nat.add_mul],cur,r3,by rw[r4,e2],r5,r6,fun j dd hj=>?_⟩
    by_cases hjn:j<ds.length
    ·rw[gAl hjn] at hj
     have hmo:mo≠none:=fun e=>by have:=hrow2 e;subst this;simp at hjn
     obtain⟨v,f1,f2⟩:=hrow4 hmo j dd hj
     exact⟨v,by rw[r7 j (by rw[←hrow3];exact hjn) hmo];exact f1,f2.step (Kmq Z hst)⟩
    ·rw[gAr (by omega)] at hj
     have hlt:j - ds.length<news.length:=by rw[hsrc2];exact(gEs.1 hj).1
     have hn:=gGe hlt
     refine⟨news[j - ds.length],?_,(hsrc3 _ _ dd hn hj).step (Kmq Z hst)⟩
     have:=r8 _ _ hn
     rw[←hrow3] at this
     rw[←this]
     congr 1
     omega
 ·by_cases hb':b<w.heap.size
  ·exact hr.heap.apart b (hst.own b hb' hb) hz
  ·exact absurd (hr.heap.old b hz) hb'
 ·rcases hcase i oi hi with⟨a1,a2,a3⟩ | ⟨rfl,rfl⟩ | ⟨rfl,rfl⟩
  ·rw[hMold i (by rw[hr.heap.len];exact a1)] at mi
   rcases hcase j oj hj with⟨b1,b2,b3⟩ | ⟨rfl,rfl⟩ | ⟨rfl,rfl⟩
   ·rw[hMold j (by rw[hr.heap.len];exact b1)] at mj
    exact hr.heap.inj i j oi oj b c c' a3 b3 li lj mi mj
   ·cases lj
   ·rw[hMnew] at mj
    exact(hnew i oi b c a2 a3 li mi c' (by cases mj;rfl)).elim
  ·cases li
  ·rw[hMnew] at mi
   rcases hcase j oj hj with⟨b1,b2,b3⟩ | ⟨rfl,rfl⟩ | ⟨rfl,rfl⟩
   ·rw[hMold j (by rw[hr.heap.len];exact b1)] at mj
    exact(hnew j oj b c' b2 b3 lj mj c (by cases mi;rfl)).elim
   ·cases lj
   ·rfl
 ·rcases hres with⟨rfl,rfl,r3,r4,rfl⟩ | ⟨b',c',cur,rfl,rfl,r3,r4,r5,r6,r7,r8,r9,r10⟩
  ·rw[r3];exact .slnil hMnew
  ·exact .sl hMnew r5 r6
theorem Kku{f:FuncId}{fn:Func}{c:Code}{gs:List G}{R:G→List Ob→Prop}(fr0:Fr)(hf:P.funcs[f]?=some fn)(hb:fn.body=some c)
  (hfr:∀ t g,fr0.get t=some g→gs[t]?=some g) (hN:gs.length≤fn.ntmps)
  (h:HB hp.length hp→EW P hp.length fn.ntmps c (fun e fr hp'=>Cv hp.length fn.ntmps (fun fr2 hp2=>Ret P fn hp.length R e fr2 hp2) fr hp') fr0 hp):EC P f gs hp R:=
 Kng fr0 hf hb hfr hN fun hb'=>by
  intro Z w0 O0 M0 w M a hs ha hr
  refine wp_mono (h hb' Z w0 O0 M0 w M a hs ha hr) ?_
  rintro e a w' ⟨fr',hp',M',q,r1,r2,r3⟩
  obtain⟨fr3,hp3,M3,k0,k1,k2,k3⟩:=q Z w' M' a r1
  exact⟨fr3,hp3,M3,k0,k1,r2.trans k2,k3 M0 r3⟩
end
end Go.Gk
