import Derived.Test.YtcihhlhmkcaeeaaGreatDoorGk33
import Derived.MapKept
import Derived.Maps.RangeRun
import Derived.Sort.Grow
set_option linter.all false
namespace Go.Gk
def zeroX(ks:List Nat)(i:TI):List G:=i.zero.cells.toList.mapIdx fun j c=>.d (bif ks.contains j then .v c else nilD c)
def G.forg(id:Nat)(g:G):G:=bif g.has id then .junk else g
def Ob.forg(id:Nat):Ob→Ob
 | .box t gs=>.box t (gs.map (G.forg id))
 | o=>o
section
variable{P:Program}{Γ:TypeId→Option TI}{F N:Nat}{Q:GPost}{fr fr':Fr}{hp hp':List Ob}{ks:List Kt}
variable{α:Type}{enc:α→List D}{ops:Array Oper}{rest:List Oper}{g:G}
variable{d:Tmp}{op:Op}{ty:TypeId}{pos:String}{after:Array Edge}{gd':Option (Nat×Bool)}
theorem Kiv{Z:Env}{w:World}{M:Mp}{ks:List Nat}{i:TI}(hz:(i.zero.cells.toList.all (·.oneCell'))=true)(j:Nat)(g:G)(hj:(zeroX ks i)[j]?=some g) :
  ∃ c:Value,i.zero.cells[j]?=some c∧c.oneCell'=true∧VR w (ownZ Z hp M) M g c:=by
 simp only[zeroX,List.getElem?_mapIdx] at hj
 obtain⟨c,hc,rfl⟩:=oMs.1 hj
 have h1:=lAe.1 hz c (mOg hc)
 refine⟨c,by simpa using hc,h1,.d ?_⟩
 cases ks.contains j with
 | true=>exact .v c h1
 | false=>exact Koz c h1
theorem Kiw(hΓ:TOK P Γ)(ks:List Nat){t:TypeId}{fs:Array Field}{i1:TI}{parts:Array (Nat×Operand)}{pg:List (Nat×G)}{gs:List G}(h1:Γ t=some i1)(h1':i1.desc=.struct fs)(hfs:(fs.toList.all fun f=>(Γ f.type).isSome)=true)
  (hz:(i1.zero.cells.toList.all (·.oneCell'))=true) (hp':evParts fr parts.toList=some pg) (hf:fillG (placesG Γ fs) (zeroX ks i1) pg=some gs)
  : OpP P N ⟨some d,.build t parts,ty,pos,after,gd'⟩ fr hp (.agg gs):=by
 intro Z w M a hr
 obtain⟨u1,inf,e1,e2,e3,e4⟩:=hΓ t _ h1
 rw[h1'] at u1
 obtain⟨r,p1,p2⟩:=Kbm (P:=P) (w:=w) hΓ fs.toList fun f hf=>lAe.1 hfs f hf
 have hpl:(fun i=>(r.toArray)[i]?)=placesG Γ fs:=by
  funext i
  rw[List.getElem?_toArray,p2 i]
  simp[placesG]
 have hpl':(fun i=>r[i]?)=placesG Γ fs:=by rw[←hpl];funext i;simp
 obtain⟨cs',r1,r2,r3,r4⟩:=Kbg (place:=placesG Γ fs) (cs:=i1.zero.cells) hr parts.toList hp' hf (by simp[zeroX]) (fun j g hj=>Kiv hz j g hj)
 refine⟨.agg cs',?_,.agg r2 fun j g v hg hv=>?_⟩
 ·have hm:(fs.mapM fun f=>(Prod.mk f.offset <$> sizeOf f.type:Sem (Nat×Nat))).run P w=.ok r.toArray w:=by
   rw[Array.mapM_eq_mapM_toList]
   simp[p1]
  simp[execOp,Instr.build,zeroValue,typeInfo,e1,e4,run_underlying u1,hm]
  rw[←hpl'] at r1
  simp[r1]
 ·obtain⟨v',f1,f2,f3⟩:=r4 j g hg
  rw[hv] at f1
  cases f1
  exact f3
theorem Kix{Z:Env}{w:World}{M:Mp}(te:TypeId)(sz:Nat)(hr:RelH Z hp M w) :
  RelH Z (hp++[.row te sz 0 []]) (M.app [none]) w∧Stp w (own hp M) w (own (hp++[.row te sz 0 []]) (M.app [none]))∧Agr hp.length M (M.app [none]):=by
 have hM:∀ i,i<M.l.length→(M.app [none]).l[i]?=M.l[i]?:=fun i hi=>gAl hi
 have hob:∀ b,obOwn (hp++[.row te sz 0 []]) (M.app [none]) b→obOwn hp M b:=by
  rintro b ⟨i,o,c,h1,h2,h3⟩
  rcases Kqj h3 with⟨hi,h4⟩ | ⟨hi,h4⟩
  ·rw[gAl (by rw[←hr.len];exact hi)] at h1
   exact⟨i,o,c,h1,h2,h4⟩
  ·cases h4
 have hown:∀ b,own (hp++[.row te sz 0 []]) (M.app [none]) b→own hp M b:=fun b h=>Kod h (hob b) (fun g=>g.of (Kof rfl)) rfl
 have hst:Stp w (own hp M) w (own (hp++[.row te sz 0 []]) (M.app [none])):=.still (fun b _ h=>hown b h) rfl fun g=>g.of (Kof rfl)
 refine⟨⟨by simp[hr.len],fun i o m h1 h2=>?_,fun b hb hz=>hr.apart b (hown b hb) hz,hr.old,hr.amb,fun i j oi oj b c c' hi hj li lj mi mj=>?_,hr.bags.mono rfl (Nat.le_refl _) (fun b _=>hob b) (Kof rfl)⟩,hst,⟨by simp[hr.len],fun i hi=>hM i (by rw[hr.len];exact hi)⟩⟩
 ·rcases Kqj h1 with⟨hi,h3⟩ | ⟨hi,rfl⟩
  ·rw[hM i (by rw[hr.len];exact hi)] at h2
   have:=hr.obj i o m h3 h2
   exact this.move (k:=M.l.length) (Koi Z hst) hM this.bel (fun _ _ _ _=>rfl) (fun _ _ _ _=>⟨rfl,fun _ _ _=>rfl⟩)
  ·subst hi
   rw[←hr.len] at h2
   rcases Kqj h2 with⟨hi,_⟩ | ⟨_,h⟩
   ·omega
   ·subst h;exact⟨rfl,rfl⟩
 ·rcases Kqj mi with⟨hi1,hi2⟩ | ⟨_,hi2⟩
  ·rcases Kqj mj with⟨hj1,hj2⟩ | ⟨_,hj2⟩
   ·rw[gAl (by rw[←hr.len];exact hi1)] at hi
    rw[gAl (by rw[←hr.len];exact hj1)] at hj
    exact hr.inj i j oi oj b c c' hi hj li lj hi2 hj2
   ·cases hj2
  ·cases hi2
theorem Kiy(te:TypeId)(sz k:Nat){o:Oper}{gs:List G}(h:OpS P N o fr hp (.agg gs) hp')(hk:gs[k]?=some (.d (.v (.slice none 0 0)))) :
  OpS P N o fr hp (.agg (gs.set k (.sl hp'.length 0))) (hp'++[.row te sz 0 []]):=by
 intro Z w M a hr
 obtain⟨v,w',M',hrun,h1,h2,h3,h4⟩:=h Z w M a hr
 obtain⟨k1,k2,k3⟩:=Kix te sz h1
 have hM:∀ i,i<M'.l.length→(M'.app [none]).l[i]?=M'.l[i]?:=fun i hi=>gAl hi
 have hle:hp.length≤hp'.length:=by rw[←h1.len];exact h4.le
 refine⟨v,w',M'.app [none],hrun,k1,?_,h3.trans k2,h4.trans k3 hle⟩
 cases h2 with
 | agg hl ih=>
  refine .agg (by simpa using hl) fun j g v hg hv=>?_
  by_cases hjk:k=j
  ·subst hjk
   have hlt:k<gs.length:=(gEs.1 hk).1
   rw[gSs hlt] at hg
   cases hg
   have:=ih k _ v hk hv
   rw[vr_v this]
   exact .slnil (by rw[←h1.len];simp)
  ·rw[gSn hjk] at hg
   exact(ih j g v hg hv).step (Koi Z k2) hM
theorem VR.forg{w:World}{O:Ow}{M:Mp}(id:Nat){g:G}{v:Value}(h:VR w O M g v):VR w O M (g.forg id) v:=by
 unfold G.forg
 cases g.has id with
 | true=>exact .junk v
 | false=>exact h
theorem Kiz{Z:Env}{w:World}{M:Mp}(id:Nat)(hr:RelH Z hp M w) :
  RelH Z (hp.map (Ob.forg id)) M w∧Stp w (own hp M) w (own (hp.map (Ob.forg id)) M):=by
 have lv:∀ o:Ob,(o.forg id).live=o.live:=fun o=>by cases o<;>rfl
 have hold:∀ (i:Nat) (o:Ob),(hp.map (Ob.forg id))[i]?=some o→∃ o0,hp[i]?=some o0∧o=o0.forg id:=fun i o h=>by
  rw[gMp] at h
  obtain⟨o0,h1,h2⟩:=oMs.1 h
  exact⟨o0,h1,h2.symm⟩
 have hobo:∀ b,obOwn (hp.map (Ob.forg id)) M b→obOwn hp M b:=by
  rintro b ⟨i,o,c,h1,h2,h3⟩
  obtain⟨o0,e1,rfl⟩:=hold i o h1
  exact⟨i,o0,c,e1,by rw[←lv o0];exact h2,h3⟩
 have hbg:∀ (i:Nat) (al:List Bool) (ar:List Ar) (lt:List (Nat×Nat)),(hp.map (Ob.forg id))[i]?=some (.bag al ar lt)→hp[i]?=some (.bag al ar lt):=Kog fun o al ar lt h=>by cases o<;>first | exact h | cases h
 have hown:∀ b,own (hp.map (Ob.forg id)) M b→own hp M b:=fun b h=>Kod h (hobo b) (fun g=>g.of hbg) rfl
 have hst:Stp w (own hp M) w (own (hp.map (Ob.forg id)) M):=.still (fun b _ h=>hown b h) rfl fun g=>g.of hbg
 refine⟨⟨by simp[hr.len],fun i o m h1 h2=>?_,fun b hb hz=>hr.apart b (hown b hb) hz,hr.old,hr.amb,fun i j oi oj b c c' hi hj li lj mi mj=>?_,hr.bags.mono rfl (Nat.le_refl _) (fun b _=>hobo b) hbg⟩,hst⟩
 ·obtain⟨o0,e1,rfl⟩:=hold i o h1
  have hob:=hr.obj i o0 m e1 h2
  have hob':ObR w (ownZ Z (hp.map (Ob.forg id)) M) M o0 m:=hob.move (k:=M.l.length) (Koi Z hst) (fun _ _=>rfl) hob.bel (fun _ _ _ _=>rfl) (fun _ _ _ _=>⟨rfl,fun _ _ _=>rfl⟩)
  cases o0 with
  | box tb gs=>
   match m,hob' with
   | some (b,c),⟨cs,e1,e2,hc⟩=>
    refine⟨cs,e1,by simpa using e2,fun j g hg=>?_⟩
    rw[gMp] at hg
    obtain⟨g0,hg0,rfl⟩:=oMs.1 hg
    obtain⟨v,f1,f2,f3⟩:=hc j g0 hg0
    exact⟨v,f1,f2,f3.forg id⟩
  | _=>exact hob'
 ·obtain⟨o1,e1,rfl⟩:=hold i oi hi
  obtain⟨o2,e2,rfl⟩:=hold j oj hj
  exact hr.inj i j o1 o2 b c c' e1 e2 (by rw[←lv o1];exact li) (by rw[←lv o2];exact lj) mi mj
theorem Kja(id:Nat):∀ Z w M a,Rel Z hp M w fr a N→∃ M',Rel Z (hp.map (Ob.forg id)) M' w fr a N∧Stp w (own hp M) w (own (hp.map (Ob.forg id)) M')∧Agr hp.length M M':=by
 intro Z w M a hr
 obtain⟨h1,h2⟩:=Kiz id hr.heap
 exact⟨M,⟨h1,fun t g h=>let ⟨v,e1,e2⟩:=hr.fr t g h;⟨v,e1,e2.step (Koi Z h2) (fun _ _=>rfl)⟩,hr.size,hr.defers⟩,h2,⟨Nat.le_of_eq hr.heap.len.symm,fun _ _=>rfl⟩⟩
theorem Kjb{l:List Oper}(id:Nat)(hp2:List Ob)(hhp:hp.map (Ob.forg id)=hp2)(hF:F≤hp.length)(k:EO P F N ops l Q fr hp2):EO P F N ops l Q fr hp:=by
 subst hhp
 exact Kqt hF (Kja id) k
theorem Kjc{o:Oper}(id:Nat)(h:OpS P N o fr (hp.map (Ob.forg id)) g hp'):OpS P N o fr hp g hp':=by
 intro Z w M a hr
 obtain⟨M1,h1,h2,h3⟩:=Kja id Z w M a hr
 obtain⟨v,w',M',hrun,k1,k2,k3,k4⟩:=h Z w M1 a h1
 exact⟨v,w',M',hrun,k1,k2,h2.trans k3,h3.trans k4 (by simp)⟩
end
end Go.Gk
namespace Go.Gk
section
variable{P:Program}{Γ:TypeId→Option TI}{F N:Nat}{Q:GPost}{fr fr':Fr}{hp hp':List Ob}{ks:List Kt}
variable{α:Type}{enc:α→List D}{ops:Array Oper}{rest:List Oper}{g:G}
variable{d:Tmp}{op:Op}{ty:TypeId}{pos:String}{after:Array Edge}{gd:Option (Nat×Bool)}
theorem Kjd(hΓ:TOK P Γ){t e:TypeId}{n:Nat}{i1 i2:TI}{x y:Operand}{gs:List G}(l:List α){z:α}{kd:IntKind}{k:Int}(hz:getZ l k=some z)(h1:Γ t=some i1)(h1':i1.desc=.array n e)(h2:Γ e=some i2)
  (hx:fr.ev x=some (.agg gs)) (hgs:gs=(l.flatMap enc).map G.d) (hn:n=l.length) (hy:fr.ev y=some (.d (.v (.int kd k)))) (henc:∀ y,(enc y).length=i2.size)
  (hg:(bif TypeDesc.isAgg i2.desc then some (.agg ((enc z).map G.d)) else((enc z).head?).map G.d)=some g):OpP P N ⟨some d,.index t x y,ty,pos,after,gd⟩ fr hp g:=fun Z w M a hr=>by
 obtain⟨i,rfl,hi,hz'⟩:=Kdy hz
 subst hgs
 obtain⟨u1,_⟩:=hΓ t _ h1
 rw[h1'] at u1
 have hs:=run_size' (P:=P) (w:=w) hΓ h2
 have hvx:=hr.ev hx
 simp only[execOp,hr.ev_v hy]
 generalize a.eval x=vx at hvx
 have hdrop:(l.flatMap enc).drop (i * i2.size)=enc z++(l.drop (i+1)).flatMap enc:=by
  rw[←Kel henc,List.drop_eq_getElem_cons hi,List.flatMap_cons]
  have:l[i]=z:=by rw[gGe hi] at hz';exact oSi hz'
  rw[this]
 have hpart:partG i2 ((l.flatMap enc).map G.d) (i * i2.size)=some g:=by
  unfold partG
  cases hb:TypeDesc.isAgg i2.desc with
  | true=>
   rw[hb] at hg
   simp only[cond_true] at hg ⊢
   rw[←hg,←List.map_drop,hdrop,List.map_append,List.take_append_of_le_length (by simp[henc]),List.take_of_length_le (by simp[henc])]
  | false=>
   rw[hb] at hg
   simp only[cond_false] at hg ⊢
   rw[←List.map_drop,hdrop]
   cases hen:enc z with
   | nil=>rw[hen] at hg;cases hg
   | cons c cs=>rw[hen] at hg;exact hg
 have hin:i<n:=by omega
 cases hvx with
 | agg hl hr'=>
  obtain⟨v,e1,e2⟩:=Kpr (w:=w) (hp:=hp) (M:=M) (Z:=Z) hΓ h2 (VR.agg hl hr') hpart
  refine⟨v,?_,e2⟩
  have:(0:Int)≤(i:Int)∧(i:Int)<(n:Int):=by omega
  simp[Instr.index,asIntOf,run_underlying u1,hs,this,e1,hin]
theorem Kje(hΓ:TOK P Γ){t e:TypeId}{n:Nat}{i1 i2:TI}{parts:Array (Nat×Operand)}{pg:List (Nat×G)}{gs:List G}(h1:Γ t=some i1)(h1':i1.desc=.array n e)(h2:Γ e=some i2)
  (hz:(i1.zero.cells.toList.all (·.oneCell'))=true) (hp':evParts fr parts.toList=some pg) (hf:fillG (fun i=>some (i * i2.size,i2.size)) (zeroG i1) pg=some gs)
  : OpP P N ⟨some d,.build t parts,ty,pos,after,gd⟩ fr hp (.agg gs):=by
 intro Z w M a hr
 obtain⟨u1,inf,e1,e2,e3,e4⟩:=hΓ t _ h1
 rw[h1'] at u1
 have hs:=run_size' (P:=P) (w:=w) hΓ h2
 obtain⟨cs',r1,r2,r3,r4⟩:=Kbg (place:=fun i=>some (i * i2.size,i2.size)) (cs:=i1.zero.cells) hr parts.toList hp' hf (by simp[zeroG]) (fun j g hj=>by
  simp only[zeroG,List.getElem?_map] at hj
  obtain⟨c,hc,rfl⟩:=oMs.1 hj
  exact⟨c,by simpa using hc,lAe.1 hz c (mOg hc),.d (Koz c (lAe.1 hz c (mOg hc)))⟩)
 refine⟨.agg cs',?_,.agg r2 fun j g v hg hv=>?_⟩
 ·simp[execOp,Instr.build,zeroValue,typeInfo,e1,e4,run_underlying u1,hs]
  simp[r1]
 ·obtain⟨v',f1,f2,f3⟩:=r4 j g hg
  rw[hv] at f1
  cases f1
  exact f3
end
end Go.Gk
namespace Go.Gk
def mGet{K V:Type}[BEq K](m:List (K×V))(k:K):Option V:=(m.find? fun e=>k==e.1).map (·.2)
class KLt (K:Type) where
 lt:K→K→Bool
instance:KLt (List UInt8):=⟨Op.bytesLess⟩
instance:KLt Int:=⟨fun a b=>decide (a<b)⟩
instance(priority:=low){K:Type}:KLt K:=⟨fun _ _=>false⟩
def mIns{K V:Type}[KLt K](k:K)(v:V):List (K×V)→List (K×V)
 | []=>[(k,v)]
 | e :: m=>bif KLt.lt k e.1 then(k,v) :: e :: m else e :: mIns k v m
def mSet{K V:Type}[BEq K][KLt K](m:List (K×V))(k:K)(v:V):List (K×V):=match m.findIdx? (fun e=>k==e.1) with
 | some i=>m.set i (k,v)
 | none=>mIns k v m
theorem Kjf{K V:Type}[KLt K](k:K)(v:V):∀ m:List (K×V),(mIns k v m).Perm (m++[(k,v)])
 | []=>.refl _
 | e :: m=>by
  simp only[mIns]
  cases KLt.lt k e.1 with
  | true=>exact(List.perm_append_comm (l₁:=[(k,v)]) (l₂:=e :: m))
  | false=>exact(Kjf k v m).cons e
abbrev mObS{K V:Type}(kv:K→Value)(agg:Bool)(enc:V→List D)(m:List (K×V))(st:Option (List (Value×List D)×List Nat×Nat)):Ob:=.map agg (m.map fun e=>(kv e.1,enc e.2)) st
abbrev mOb{K V:Type}(kv:K→Value)(agg:Bool)(enc:V→List D)(m:List (K×V)):Ob:=mObS kv agg enc m none
theorem Kjg{α β:Type}(f:α→β){l1 l2:List β}(h:l1.Perm l2):∀ m:List α,l2=m.map f→∃ m':List α,m'.Perm m∧l1=m'.map f:=by
 induction h with
 | nil=>intro m hm;exact⟨m,.refl _,hm⟩
 | cons x _ ih=>
  intro m hm
  cases m with
  | nil=>cases hm
  | cons a m=>
   simp only[List.map_cons,List.cons.injEq] at hm
   obtain⟨m',h1,h2⟩:=ih m hm.2
   exact⟨a :: m',h1.cons a,by simp[h2,hm.1]⟩
 | swap x y l=>
  intro m hm
  match m,hm with
  | a :: b :: m,hm=>
   simp only[List.map_cons,List.cons.injEq] at hm
   exact⟨b :: a :: m,.swap _ _ _,by simp[hm]⟩
 | trans _ _ i1 i2=>
  intro m hm
  obtain⟨m1,h1,h2⟩:=i2 m hm
  obtain⟨m2,h3,h4⟩:=i1 m1 h2
  exact⟨m2,h3.trans h1,h4⟩
abbrev kS(s:List UInt8):Value:=.string ⟨s.toArray⟩
abbrev kI(k:IntKind)(n:Int):Value:=.int k n
structure KeyOk{K:Type}[BEq K](d:TypeDesc)(kv:K→Value):Prop where
 same:∀ a b:K,Instr.sameNow d (kv a) (kv b)=some (a==b)
 bits:∀ a b:K,(a==b)=true→Instr.sameBits 10000 (kv b) (kv a)=true
 key:∀ a:K,MapKept.IsKey d (kv a)
 eq:∀ a b:K,(a==b)=true→a=b
 refl:∀ a:K,(a==a)=true
theorem Kjh:KeyOk (K:=List UInt8) .string kS:=⟨fun a b=>by
  show some ((⟨a.toArray⟩:ByteArray)==⟨b.toArray⟩)=some (a==b)
  refine congrArg some ?_
  show(a.toArray==b.toArray)=(a==b)
  simp,fun a b h=>by
  obtain rfl:a=b:=by simpa using h
  show((⟨a.toArray⟩:ByteArray)==⟨a.toArray⟩)=true
  show(a.toArray==a.toArray)=true
  simp,fun a=>by simp[MapKept.IsKey,kS],fun a b h=>by simpa using h,fun a=>by simp⟩
theorem Kji(k:IntKind):KeyOk (K:=Int) (.int k) (kI k):=⟨fun a b=>by simp[Instr.sameNow,kI],fun a b h=>by
  obtain rfl:a=b:=by simpa using h
  simp[Instr.sameBits,kI],fun a=>by simp[MapKept.IsKey,kI],fun a b h=>by simpa using h,fun a=>by simp⟩
theorem Kjj{K V:Type}[BEq K]{d:TypeDesc}{kv:K→Value}(hK:KeyOk d kv)(k:K):∀ (l:List MapEntry) (m:List (K×V)) (i:Nat),l.length=m.length→(∀ (j:Nat) (e:MapEntry) (x:K×V),l[j]?=some e→m[j]?=some x→e.key=kv x.1)→
  Instr.findNow d (kv k) l i=some ((m.findIdx? fun e=>k==e.1).bind fun j=>(l[j]?).map fun e=>(i+j,e.val))
 | [],[],i,_,_=>rfl
 | e :: l,x :: m,i,hl,hk=>by
  have ih:=Kjj hK k l m (i+1) (by simpa using hl) fun j e x he hx=>hk (j+1) e x (by simpa using he) (by simpa using hx)
  have h0:=hk 0 e x (by simp) (by simp)
  simp only[Instr.findNow,h0,hK.same,List.findIdx?_cons]
  cases hb:(k==x.1) with
  | true=>simp
  | false=>
   simp only[ih]
   cases m.findIdx? fun e=>k==e.1 with
   | none=>rfl
   | some j=>simp[Nat.add_assoc,Nat.add_comm 1 j]
 | [],_ :: _,_,h,_=>by simp at h
 | _ :: _,[],_,h,_=>by simp at h
def zD(v:Value):List D:=v.cells.toList.map nilD
def isAggV:Value→Bool
 | .agg _=>true
 | _=>false
def dG(agg:Bool)(ds:List D):Option G:=match agg with
 | true=>some (.agg (ds.map G.d))
 | false=>match ds with
  | [d]=>some (.d d)
  | _=>none
theorem DV.vr{w:World}{O:Ow}{M:Mp}{agg:Bool}{ds:List D}{v:Value}{g:G}(h:DV w O agg ds v)(hg:dG agg ds=some g):VR w O M g v:=by
 cases agg with
 | true=>
  obtain⟨cs,rfl,h1,h2⟩:=h
  cases hg
  refine .agg (by simpa using h1) fun j g v hg hv=>?_
  rw[gMp] at hg
  obtain⟨d,hd,rfl⟩:=oMs.1 hg
  exact .d (h2 j d v hd hv)
 | false=>
  obtain⟨d,rfl,h1⟩:=h
  cases hg
  exact .d h1
theorem VR.dv{w:World}{O:Ow}{M:Mp}{agg:Bool}{ds:List D}{v:Value}{g:G}(h:VR w O M g v)(hg:dG agg ds=some g):DV w O agg ds v:=by
 cases agg with
 | true=>
  cases hg
  cases h with
  | agg hl hr=>
   refine⟨_,rfl,by simpa using hl,fun j d u hd hu=>?_⟩
   have:=hr j (.d d) u (by simp[hd]) hu
   cases this
   assumption
 | false=>
  match ds,hg with
  | [x],hg=>
   cases hg
   cases h with
   | d h=>exact⟨x,rfl,h⟩
theorem Kjk{w:World}{O:Ow}{v:Value}{agg:Bool}(ha:isAggV v=agg)(h:(v.cells.toList.all (·.oneCell'))=true):DV w O agg (zD v) v:=by
 subst ha
 cases v with
 | agg cs=>
  refine⟨cs,rfl,by simp[zD,Value.cells],fun j d u hd hu=>?_⟩
  simp only[zD,Value.cells,List.getElem?_map] at hd
  obtain⟨c,hc,rfl⟩:=oMs.1 hd
  have:c=u:=by
   have h':cs[j]?=some c:=by simpa using hc
   rw[h'] at hu;exact oSi hu
  subst this
  exact Koz c (lAe.1 h c (mOg hc))
 | _=>
  refine⟨_,rfl,Koz _ ?_⟩
  simpa [Value.cells] using h
section
variable{P:Program}{Γ:TypeId→Option TI}{F N:Nat}{Q:GPost}{fr fr':Fr}{hp hp':List Ob}{ks:List Kt}
variable{ops:Array Oper}{rest:List Oper}{g:G}
variable{d:Tmp}{op:Op}{ty:TypeId}{pos:String}{after:Array Edge}{gd:Option (Nat×Bool)}
theorem Kjl{Z:Env}{M:Mp}{w:World}(hr:RelH Z hp M w)(o:Ob)(ob:Obj)(c:Nat)
  (ho:∀ (w':World) O',Stp w (ownZ Z hp M) w' O'→w'.heap[w.heap.size]?=some ob→ObR w' O' (M.app [some (w.heap.size,c)]) o (some (w.heap.size,c))) (hog:o.isBag=false:=by rfl) :
  RelH Z (hp++[o]) (M.app [some (w.heap.size,c)]) (w.alloc ob)∧Stp w (own hp M) (w.alloc ob) (own (hp++[o]) (M.app [some (w.heap.size,c)]))∧Agr hp.length M (M.app [some (w.heap.size,c)]):=by
 have hob:∀ b,b<w.heap.size→obOwn (hp++[o]) (M.app [some (w.heap.size,c)]) b→obOwn hp M b:=by
  rintro b hb ⟨i,o',c',h1,h2,h3⟩
  rcases Kqj h3 with⟨hi,h4⟩ | ⟨hi,h4⟩
  ·rcases Kqj h1 with⟨_,h5⟩ | ⟨hi',_⟩
   ·exact⟨i,o',c',h5,h2,h4⟩
   ·rw[hr.len] at hi;omega
  ·cases h4;omega
 have hst:Stp w (own hp M) (w.alloc ob) (own (hp++[o]) (M.app [some (w.heap.size,c)])):=by
  exact .mk' (by simp) (fun b hb _=>heap_alloc_old w _ hb) (fun b hb h=>Kod h (hob b hb) (fun g=>g.of (Kof hog)) rfl) rfl rfl rfl rfl (fun g=>g.of (Kof hog)) fun x hx _=>heap_alloc_old w _ (hr.bags.tgs x hx).1
 have hM:∀ i,i<M.l.length→(M.app [some (w.heap.size,c)]).l[i]?=M.l[i]?:=fun i hi=>gAl hi
 refine⟨⟨by simp[hr.len],fun i o' m h1 h2=>?_,fun b hb hz=>?_,fun b hb=>?_,hr.amb_stp hst,fun i j oi oj b c1 c2 hi hj li lj mi mj=>?_,hr.bags.mono rfl (by simp) hob (Kof hog)⟩,hst,⟨by simp[hr.len],fun i hi=>hM i (by rw[hr.len];exact hi)⟩⟩
 ·rcases Kqj h1 with⟨hi,h3⟩ | ⟨hi,rfl⟩
  ·have hi':i<M.l.length:=by rw[hr.len];exact hi
   rw[hM i hi'] at h2
   have:=hr.obj i o' m h3 h2
   refine this.move (k:=M.l.length) (Koi Z hst) hM this.bel (fun b c' e hl=>?_) fun _ _ _ _=>⟨rfl,fun x hx _=>heap_alloc_old w _ (hr.bags.tgs x hx).1⟩
   subst e
   exact heap_alloc_old w _ (hr.block_ob ⟨i,o',c',h3,hl,h2⟩)
  ·subst hi
   rw[←hr.len] at h2
   have:m=some (w.heap.size,c):=by
    rcases Kqj h2 with⟨hi,_⟩ | ⟨_,h⟩
    ·omega
    ·exact h.symm
   subst this
   exact ho _ _ (Koi Z hst) (heap_alloc_new w _)
 ·by_cases hb':b<w.heap.size
  ·exact hr.apart b (hst.own b hb' hb) hz
  ·exact absurd (hr.old b hz) hb'
 ·have:=hr.old b hb;simp;omega
 ·rcases Kqj hi with⟨hi1,hi2⟩ | ⟨hi1,hi2⟩
  ·rcases Kqj hj with⟨hj1,hj2⟩ | ⟨hj1,hj2⟩
   ·rw[hM i (by rw[hr.len];exact hi1)] at mi
    rw[hM j (by rw[hr.len];exact hj1)] at mj
    exact hr.inj i j oi oj b c1 c2 hi2 hj2 li lj mi mj
   ·subst hj2
    rw[hM i (by rw[hr.len];exact hi1)] at mi
    have:=hr.block_ob ⟨i,oi,c1,hi2,li,mi⟩
    rw[hj1,←hr.len] at mj
    simp at mj
    omega
  ·subst hi2
   rcases Kqj hj with⟨hj1,hj2⟩ | ⟨hj1,hj2⟩
   ·rw[hM j (by rw[hr.len];exact hj1)] at mj
    have:=hr.block_ob ⟨j,oj,c2,hj2,lj,mj⟩
    rw[hi1,←hr.len] at mi
    simp at mi
    omega
   ·omega
theorem Kjm{Z:Env}{M:Mp}{w:World}(hr:RelH Z hp M w){id b c:Nat}{o o':Ob}{ob':Obj}(ho:hp[id]?=some o)(hl:o.live=true)(hM:M.l[id]?=some (some (b,c)))
  (ho':∀ (w':World),Stp w (ownZ Z hp M) w' (ownZ Z (hp.set id o') M)→w'.heap[b]?=some ob'→ObR w' (ownZ Z (hp.set id o') M) M o' (some (b,c))) (hl':o'.live=true) (hog:o'.isBag=false:=by rfl) :
  RelH Z (hp.set id o') M { w with heap:=w.heap.setIfInBounds b ob' }∧Stp w (own hp M) { w with heap:=w.heap.setIfInBounds b ob' } (own (hp.set id o') M):=by
 have hid:id<hp.length:=(gEs.1 ho).1
 have hb:b<w.heap.size:=hr.block_ob ⟨id,o,c,ho,hl,hM⟩
 have hob:∀ b',obOwn (hp.set id o') M b'→obOwn hp M b':=by
  rintro b' ⟨i,oi,ci,e1,e2,e3⟩
  by_cases hi:i=id
  ·subst hi;exact⟨i,o,ci,ho,hl,e3⟩
  ·rw[gSn (Ne.symm hi)] at e1;exact⟨i,oi,ci,e1,e2,e3⟩
 have hother:∀ k,k≠b→(w.heap.setIfInBounds b ob')[k]?=w.heap[k]?:=fun k hk=>by rw[Array.getElem?_setIfInBounds_ne (Ne.symm hk)]
 have hown:∀ b',own (hp.set id o') M b'→own hp M b':=fun b' h=>Kod h (hob b') (fun g=>g.of (Koe hog)) rfl
 have htags:=hr.tags (w':={ w with heap:=w.heap.setIfInBounds b ob' }) ⟨id,o,c,ho,hl,hM⟩ (fun k _ hk=>hother k hk)
 have hst:Stp w (own hp M) { w with heap:=w.heap.setIfInBounds b ob' } (own (hp.set id o') M):=
  .mk' (by simp) (fun b' _ hn=>hother b' fun e=>hn (e▸.inl ⟨id,o,c,ho,hl,hM⟩)) (fun b' _ h=>hown b' h) rfl rfl rfl rfl (fun g=>g.of (Koe hog)) (hr.bags.ht htags)
 refine⟨⟨by simp[hr.len],fun i oi m e1 e2=>?_,fun b' hb' hz=>hr.apart b' (hown b' hb') hz,fun b' hz=>by have:=hr.old b' hz;simpa using this,hr.amb_stp hst,fun i j oi oj b1 c1 c2 e1 e2 l1 l2 m1 m2=>?_,hr.bags.mono rfl (by simp) (fun b' _=>hob b') (Koe hog)⟩,hst⟩
 ·by_cases hi:i=id
  ·subst hi
   simp[hid] at e1
   subst e1
   rw[hM] at e2
   cases e2
   exact ho' _ (Koi Z hst) (by simp[hb])
  ·rw[gSn (Ne.symm hi)] at e1
   have:=hr.obj i oi m e1 e2
   refine this.move (k:=M.l.length) (Koi Z hst) (fun _ _=>rfl) this.bel (fun b' c' e hl2=>?_) (hr.bags.kp htags rfl e1)
   subst e
   refine hother b' fun e=>hi ?_
   subst e
   exact hr.inj i id oi o b' c' c e1 ho hl2 hl e2 hM
 ·have key:∀ (i:Nat) (oi:Ob),(hp.set id o')[i]?=some oi→oi.live=true→∃ oi':Ob,hp[i]?=some oi'∧oi'.live=true:=fun i oi e1 l1=>by
   by_cases hi:i=id
   ·subst hi;exact⟨o,ho,hl⟩
   ·rw[gSn (Ne.symm hi)] at e1;exact⟨oi,e1,l1⟩
  obtain⟨oi',f1,f2⟩:=key i oi e1 l1
  obtain⟨oj',f3,f4⟩:=key j oj e2 l2
  exact hr.inj i j oi' oj' b1 c1 c2 f1 f3 f2 f4 m1 m2
theorem Kjn{t:TypeId}(agg:Bool):OpS P N ⟨some d,.makeMap t none,ty,pos,after,gd⟩ fr hp (.map hp.length) (hp++[.map agg [] none]):=fun Z w M a hr=>by
 obtain⟨r1,r2,r3⟩:=Kjl hr.heap (.map agg [] none) (.map #[] 0) 0 (fun w' O' hst hh=>⟨#[],0,[],hh,.refl _,.nil,fun raw h=>(by cases h),rfl,⟨fun i j e e' h=>by simp at h,fun i e h=>by simp at h⟩,fun j k ds h=>by simp at h⟩)
 refine⟨.map (some w.heap.size),_,_,?_,r1,.map (c:=0) ?_,r2,r3⟩
 ·simp[execOp,Instr.makeMap,newObj,Sem.run]
 rw[←hr.heap.len];simp
variable{K V:Type}[BEq K][KLt K]{kv:K→Value}{agg:Bool}{enc:V→List D}
def Apart(kv:K→Value)(m:List (K×V)):Prop:=m.Pairwise fun x y=>kv x.1≠kv y.1
theorem Apart.one:∀ {m:List (K×V)},Apart kv m→∀ {x y:K×V},x∈m→y∈m→kv x.1=kv y.1→x=y
 | z :: m,h,x,y,hx,hy,e=>by
  have h1:=List.pairwise_cons.1 h
  rcases List.mem_cons.1 hx with hx1 | hx1
  ·rcases List.mem_cons.1 hy with hy1 | hy1
   ·rw[hx1,hy1]
   subst hx1;exact absurd e (h1.1 y hy1)
  rcases List.mem_cons.1 hy with hy1 | hy1
  ·subst hy1;exact absurd e.symm (h1.1 x hx1)
  exact Apart.one h1.2 hx1 hy1 e
theorem Kjo{dd:TypeDesc}(hK:KeyOk dd kv){m' m:List (K×V)}(hp:m'.Perm m)(ha:Apart kv m')(k:K):mGet m' k=mGet m k:=by
 unfold mGet
 cases h1:m'.find? fun e=>k==e.1 with
 | none=>
  have:m.find? (fun e=>k==e.1)=none:=List.find?_eq_none.2 fun x hx=>List.find?_eq_none.1 h1 x (hp.mem_iff.2 hx)
  rw[this]
 | some x=>
  have hx:=List.mem_of_find?_eq_some h1
  have hkx:=hK.eq k x.1 (List.find?_some (p:=fun e:K×V=>k==e.1) h1)
  cases h2:m.find? fun e=>k==e.1 with
  | none=>exact absurd (List.find?_some (p:=fun e:K×V=>k==e.1) h1) (List.find?_eq_none.1 h2 x (hp.mem_iff.1 hx))
  | some y=>
   have hy:=List.mem_of_find?_eq_some h2
   have hky:=hK.eq k y.1 (List.find?_some (p:=fun e:K×V=>k==e.1) h2)
   rw[ha.one hx (hp.mem_iff.2 hy) (by rw[←hkx,←hky])]
structure MapAt(w:World)(O:Ow)(kv:K→Value)(agg:Bool)(enc:V→List D)(b:Nat)(m m':List (K×V))(st:Option (List (Value×List D)×List Nat×Nat))(ms:Array MapEntry)(cl:Nat):Prop where
 perm:m'.Perm m
 apart:Apart kv m'
 raw:∀ raw,st=some raw→raw=(m'.map (fun e=>(kv e.1,enc e.2)),ms.toList.map (·.born),cl)
 heap:w.heap[b]?=some (.map ms cl)
 size:ms.size=m'.length
 born:Born ms cl
 get:∀ (j:Nat) (x:K×V),m'[j]?=some x→∃ e:MapEntry,ms[j]?=some e∧e.key=kv x.1∧DV w O agg (enc x.2) e.val
theorem Kjp{Z:Env}{M:Mp}{w:World}(hr:RelH Z hp M w){id b c:Nat}{m:List (K×V)}{st}(ho:hp[id]?=some (mObS kv agg enc m st))(hM:M.l[id]?=some (some (b,c))) :
  ∃ m' ms cl,MapAt w (ownZ Z hp M) kv agg enc b m m' st ms cl:=by
 obtain⟨ms,cl,es',h1,p1,p2,p3,h2,h3,h4⟩:=hr.obj id _ _ ho hM
 obtain⟨m',q1,rfl⟩:=Kjg _ p1 m rfl
 rw[List.pairwise_map] at p2
 exact⟨m',ms,cl,q1,p2,p3,h1,by simpa using h2,h3,fun j x hj=>h4 j _ _ (by simp[hj])⟩
theorem MapAt.find{w:World}{O:Ow}{b:Nat}{m m':List (K×V)}{st}{ms:Array MapEntry}{cl:Nat}(h:MapAt w O kv agg enc b m m' st ms cl){dd:TypeDesc}(hK:KeyOk dd kv)(k:K) :
  Instr.findNow dd (kv k) ms.toList 0=some ((m'.findIdx? fun e=>k==e.1).bind fun j=>(ms[j]?).map fun e=>(j,e.val)):=by
 have:=Kjj hK k ms.toList m' 0 (by simpa using h.size) (fun j e x he hj=>by
  obtain⟨e',e1,e2,_⟩:=h.get j x hj
  have:e=e':=by
   have he':ms[j]?=some e:=by simpa using he
   rw[e1] at he';exact(oSi he').symm
  rw[this];exact e2)
 rw[this]
 congr 2
 funext j
 simp
theorem Kjq(m:List (K×V))(k:K):mGet m k=(m.findIdx? fun e=>k==e.1).bind fun j=>(m[j]?).map (·.2):=by
 unfold mGet
 induction m with
 | nil=>rfl
 | cons x m ih=>
  rw[List.find?_cons,List.findIdx?_cons]
  cases hb:(k==x.1) with
  | true=>simp
  | false=>
   simp only[ih]
   cases m.findIdx? fun e=>k==e.1<;>simp
theorem Kjr(hΓ:TOK P Γ){t kt et:TypeId}{i1 i2 i3:TI}{x y:Operand}{id:Nat}{st:Option (List (Value×List D)×List Nat×Nat)}(m:List (K×V))(k:K)(z:V){gv:G}(h1:Γ t=some i1)(h1':i1.desc=.map kt et)(h2:Γ kt=some i2)(h3:Γ et=some i3)(hK:KeyOk i2.desc kv)
  (hx:fr.ev x=some (.map id)) (ho:hp[id]?=some (mObS kv agg enc m st)) (hy:fr.ev y=some (.d (.v (kv k)))) (hz:zD i3.zero=enc z) (hag:isAggV i3.zero=agg) (hz1:(i3.zero.cells.toList.all (·.oneCell'))=true)
  (hg:dG agg (enc ((mGet m k).getD z))=some gv):OpP P N ⟨some d,.lookup t x y false,ty,pos,after,gd⟩ fr hp gv:=fun Z w M a hr=>by
 obtain⟨u1,_⟩:=hΓ t _ h1
 rw[h1'] at u1
 obtain⟨u2,_⟩:=hΓ kt _ h2
 obtain⟨u3,inf,e1,e2,e3,e4⟩:=hΓ et _ h3
 have hvx:=hr.ev hx
 simp only[execOp,hr.ev_v hy]
 generalize a.eval x=vx at hvx
 cases hvx with
 | map hM=>
  obtain⟨m',ms,cl,hA⟩:=Kjp hr.heap ho hM
  have m1:=hA.heap
  have m4:=hA.get
  have hf:=MapKept.run_findKey (P:=P) (w:=w) u2 (hA.find hK k)
  have hc:=MapKept.run_checkKey (P:=P) (w:=w) u2 (hK.key k) ms.isEmpty 9999
  rw[←Kjo hK hA.perm hA.apart] at hg
  rw[Kjq] at hg
  cases hi:m'.findIdx? fun e=>k==e.1 with
  | none=>
   rw[hi] at hf hg
   simp only[Option.bind_none,Option.getD_none] at hf hg
   refine⟨i3.zero,?_,(Kjk hag hz1).vr (by rw[hz];exact hg)⟩
   simp[Instr.lookup,run_underlying u1,MapKept.run_getObj_map m1,hc,hf,zeroValue,typeInfo,e1,e4]
  | some j=>
   rw[hi] at hf hg
   have hj:j<m'.length:=(lFi.1 hi).1
   obtain⟨e,f1,f2,f3⟩:=m4 j _ (gGe hj)
   simp only[Option.bind_some,f1,List.getElem?_eq_getElem hj,Option.map_some,Option.getD_some] at hf hg
   refine⟨e.val,?_,f3.vr hg⟩
   simp[Instr.lookup,run_underlying u1,MapKept.run_getObj_map m1,hc,hf]
theorem Kjs{α:Type}{y:α}(x:α):∀ {l:List α} {j:Nat},l[j]?=some y→(l.set j x).Perm (x :: l.eraseIdx j)∧l.Perm (y :: l.eraseIdx j)
 | [],j,h=>by simp at h
 | a :: l,0,h=>by simp at h;subst h;exact⟨.refl _,.refl _⟩
 | a :: l,j+1,h=>by
  obtain⟨h1,h2⟩:=Kjs x (l:=l) (j:=j) (by simpa using h)
  exact⟨(h1.cons a).trans (.swap _ _ _),(h2.cons a).trans (.swap _ _ _)⟩
theorem Kjt{m' m:List (K×V)}(hp:m'.Perm m)(k:K)(h:(m'.findIdx? fun e=>k==e.1)=none):(m.findIdx? fun e=>k==e.1)=none:=by
 rw[List.findIdx?_eq_none_iff] at h ⊢
 exact fun x hx=>h x (hp.mem_iff.2 hx)
theorem Kju(hΓ:TOK P Γ){t kt et:TypeId}{i1 i2:TI}{x y z:Operand}{id:Nat}{st:Option (List (Value×List D)×List Nat×Nat)}(m:List (K×V))(k:K)(v:V){gv:G}(h1:Γ t=some i1)(h1':i1.desc=.map kt et)(h2:Γ kt=some i2)(hK:KeyOk i2.desc kv)
  (hx:fr.ev x=some (.map id)) (ho:hp[id]?=some (mObS kv agg enc m st)) (hy:fr.ev y=some (.d (.v (kv k)))) (hv:fr.ev z=some gv) (hg:dG agg (enc v)=some gv) :
  OpU P N ⟨none,.mapUpdate t x y z,ty,pos,after,gd⟩ fr hp (hp.set id (mOb kv agg enc (mSet m k v))):=fun Z w M a hr=>by
 obtain⟨u1,_⟩:=hΓ t _ h1
 rw[h1'] at u1
 obtain⟨u2,_⟩:=hΓ kt _ h2
 have hvx:=hr.ev hx
 have hvz:=hr.ev hv
 simp only[execOp,hr.ev_v hy]
 generalize a.eval x=vx at hvx
 generalize a.eval z=vz at hvz
 have hdz:DV w (ownZ Z hp M) agg (enc v) vz:=hvz.dv hg
 cases hvx with
 | map hM=>
  rename_i b c
  obtain⟨m',ms,cl,hA⟩:=Kjp hr.heap ho hM
  have m1:=hA.heap
  have m2:=hA.size
  have m3:=hA.born
  have m4:=hA.get
  have hf:=MapKept.run_findKey (P:=P) (w:=w) u2 (hA.find hK k)
  have hc:=MapKept.run_checkKey (P:=P) (w:=w) u2 (hK.key k) false 9999
  cases hi:m'.findIdx? fun e=>k==e.1 with
  | none=>
   rw[hi] at hf
   simp only[Option.bind_none] at hf
   have hset:mSet m k v=mIns k v m:=by unfold mSet;rw[Kjt hA.perm k hi]
   have hnk:∀ e∈m',kv e.1≠kv k:=fun e he hkv=>by
    have h0:=List.findIdx?_eq_none_iff.1 hi e he
    have hs:=hK.same k e.1
    rw[hkv,hK.same k k,hK.refl k,h0] at hs
    cases hs
   rw[hset]
   obtain⟨r1,r2⟩:=Kjm (o':=mOb kv agg enc (mIns k v m)) (ob':=.map (ms.push { key:=kv k,val:=vz,born:=cl }) (cl+1)) hr.heap ho rfl hM (fun w' hst hh=>by
    refine⟨_,_,(m'++[(k,v)]).map fun e=>(kv e.1,enc e.2),hh,?_,?_,fun raw h=>(by cases h),by simp[m2],⟨fun i j e e' hi hj hb=>?_,fun i e hi=>?_⟩,fun j k' ds hj=>?_⟩
    ·exact((hA.perm.append_right _).trans (Kjf k v m).symm).map _
    ·rw[List.pairwise_map,List.pairwise_append]
     exact⟨hA.apart,List.pairwise_singleton _ _,fun e he e' he'=>by obtain rfl:=List.mem_singleton.1 he';exact hnk e he⟩
    ·rw[Array.getElem?_push] at hi hj
     split at hi<;>split at hj
     ·omega
     ·cases hi;have:=m3.2 j e' hj;simp only at hb;omega
     ·cases hj;have:=m3.2 i e hi;simp only at hb;omega
     ·exact m3.1 i j e e' hi hj hb
    ·rw[Array.getElem?_push] at hi
     split at hi
     ·cases hi;simp
     ·have:=m3.2 i e hi;omega
    ·simp only[List.map_append,List.map_cons,List.map_nil] at hj
     rcases Kqj hj with⟨hl,h'⟩ | ⟨hl,h'⟩
     ·rw[gMp] at h'
      obtain⟨x,hx,he⟩:=oMs.1 h'
      simp only[Prod.mk.injEq] at he
      obtain⟨rfl,rfl⟩:=he
      obtain⟨e,e1,e2,e3⟩:=m4 j x hx
      have hlt:=(aEs.1 e1).1
      exact⟨e,by rw[Array.getElem?_push_lt hlt,←Array.getElem?_eq_getElem hlt];exact e1,e2,e3.step hst⟩
     ·simp only[Prod.mk.injEq] at h'
      obtain⟨rfl,rfl⟩:=h'
      refine⟨{ key:=kv k,val:=vz,born:=cl },?_,rfl,hdz.step hst⟩
      rw[hl,List.length_map,←m2]
      simp) rfl
   refine⟨_,M,?_,r1,r2,⟨Nat.le_of_eq hr.heap.len.symm,fun _ _=>rfl⟩⟩
   simp[Instr.mapUpdate,run_underlying u1,MapKept.run_getObj_map m1,hc,hf,MapKept.run_setObj_map _ m1]
  | some j=>
   rw[hi] at hf
   have hj:j<m'.length:=(lFi.1 hi).1
   have hkj:(k==(m'[j]).1)=true:=(lFi.1 hi).2.1
   have hkj':=hK.eq _ _ hkj
   obtain⟨e,f1,f2,f3⟩:=m4 j _ (gGe hj)
   simp only[Option.bind_some,f1,Option.map_some] at hf
   obtain⟨i,hi2⟩:∃ i,(m.findIdx? fun e=>k==e.1)=some i:=by
    cases h0:m.findIdx? fun e=>k==e.1 with
    | some i=>exact⟨i,rfl⟩
    | none=>rw[Kjt hA.perm.symm k h0] at hi;cases hi
   have hil:i<m.length:=(lFi.1 hi2).1
   have hki:=hK.eq _ _ (lFi.1 hi2).2.1
   have hset:mSet m k v=m.set i (k,v):=by unfold mSet;rw[hi2]
   have hsame:m'[j]=m[i]:=hA.apart.one (List.getElem_mem hj) (hA.perm.mem_iff.2 (List.getElem_mem hil)) (by rw[←hkj',←hki])
   have hperm:(m'.set j (k,v)).Perm (m.set i (k,v)):=by
    obtain⟨a1,a2⟩:=Kjs (k,v) (gGe hj)
    obtain⟨b1,b2⟩:=Kjs (k,v) (gGe hil)
    rw[hsame] at a2
    exact a1.trans ((((a2.symm.trans hA.perm).trans b2).cons_inv.cons _).trans b1.symm)
   rw[hset]
   have hjs:=(aEs.1 f1).1
   have hbits:Instr.sameBits 10000 e.key (kv k)=true:=by rw[f2];exact hK.bits k _ hkj
   obtain⟨r1,r2⟩:=Kjm (o':=mOb kv agg enc (m.set i (k,v))) (ob':=.map (ms.modify j fun e=>{ e with key:=kv k,val:=vz }) cl) hr.heap ho rfl hM (fun w' hst hh=>by
    have hget:∀ (i:Nat) (e':MapEntry),(ms.modify j fun e=>{ e with key:=kv k,val:=vz })[i]?=some e'→∃ e0,ms[i]?=some e0∧e'.born=e0.born:=fun i e' h=>by
     rw[Array.getElem?_modify] at h
     split at h
     ·obtain⟨e0,h0,rfl⟩:=oMs.1 h
      exact⟨e0,h0,rfl⟩
     ·exact⟨e',h,rfl⟩
    refine⟨_,_,(m'.set j (k,v)).map fun e=>(kv e.1,enc e.2),hh,hperm.map _,?_,fun raw h=>(by cases h),by simp[m2],⟨fun i i' e1 e2 h1 h2 hb=>?_,fun i e1 h1=>?_⟩,fun i k' ds h=>?_⟩
    ·have hkeys:(m'.set j (k,v)).map (fun e=>kv e.1)=m'.map (fun e=>kv e.1):=by
      rw[List.map_set]
      apply List.ext_getElem?
      intro n
      rw[List.getElem?_set]
      split
      ·rename_i hn
       subst hn
       simp[hj,hkj']
      ·rfl
     rw[List.pairwise_map]
     have:=List.pairwise_map (f:=fun e:K×V=>kv e.1) (R:=fun x y=>x≠y) (l:=m'.set j (k,v))
     rw[hkeys,List.pairwise_map] at this
     exact this.1 hA.apart
    ·obtain⟨a1,b1,c1⟩:=hget i e1 h1
     obtain⟨a2,b2,c2⟩:=hget i' e2 h2
     exact m3.1 i i' a1 a2 b1 b2 (by rw[←c1,←c2];exact hb)
    ·obtain⟨a1,b1,c1⟩:=hget i e1 h1
     rw[c1];exact m3.2 i a1 b1
    ·rw[gMp] at h
     obtain⟨x,hx,he⟩:=oMs.1 h
     simp only[Prod.mk.injEq] at he
     obtain⟨rfl,rfl⟩:=he
     by_cases hij:j=i
     ·subst hij
      rw[gSs hj] at hx
      cases hx
      exact⟨{ e with key:=kv k,val:=vz },by rw[Array.getElem?_modify,if_pos rfl,f1];rfl,rfl,hdz.step hst⟩
     ·rw[gSn hij] at hx
      obtain⟨e1,g1,g2,g3⟩:=m4 i x hx
      exact⟨e1,by rw[Array.getElem?_modify,if_neg hij];exact g1,g2,g3.step hst⟩) rfl
   refine⟨_,M,?_,r1,r2,⟨Nat.le_of_eq hr.heap.len.symm,fun _ _=>rfl⟩⟩
   simp[Instr.mapUpdate,run_underlying u1,MapKept.run_getObj_map m1,hc,hf,MapKept.run_setObj_map _ m1,f1,Instr.keyThatStays,hbits]
def runeS(n:Int):List UInt8:=(Utf8.encode n).data.toList
end
end Go.Gk
namespace Go.Gk
def Slf{α:Type}(enc:α→List D)(l:List α):D:=.rf l.length (l.flatMap enc)
inductive D.Le:D→D→Prop
 | refl (d:D):D.Le d d
 | rf (n:Nat) (xs:List D):D.Le (.rf n xs) (.ro n xs)
 | rt (te:TypeId) (sz t n:Nat) (xs:List D):D.Le (.rt te sz t n xs) (.ro n xs)
def Ds.Le:List D→List D→Prop
 | [],[]=>True
 | d :: r,d' :: r'=>D.Le d d'∧Ds.Le r r'
 | _,_=>False
theorem Ds.Le.get:∀ {l l':List D},Ds.Le l l'→l.length=l'.length∧∀ (j:Nat) (d':D),l'[j]?=some d'→∃ d,l[j]?=some d∧D.Le d d'
 | [],[],_=>⟨rfl,fun j d' h=>by simp at h⟩
 | d :: r,d' :: r',h=>by
  obtain⟨h1,h2⟩:=Ds.Le.get h.2
  refine⟨by simp[h1],fun j x hx=>?_⟩
  cases j with
  | zero=>simp at hx;subst hx;exact⟨d,rfl,h.1⟩
  | succ j=>simpa using h2 j x (by simpa using hx)
 | [],_ :: _,h=>h.elim
 | _ :: _,[],h=>h.elim
theorem Ds.Le.app:∀ {a a' b b':List D},Ds.Le a a'→Ds.Le b b'→Ds.Le (a++b) (a'++b')
 | [],[],_,_,_,h=>h
 | _ :: _,_ :: _,_,_,h1,h2=>⟨h1.1,Ds.Le.app h1.2 h2⟩
 | [],_ :: _,_,_,h,_=>h.elim
 | _ :: _,[],_,_,h,_=>h.elim
theorem Ds.Le.flat{α:Type}{e e':α→List D}(h:∀ x,Ds.Le (e x) (e' x)):∀ l:List α,Ds.Le (l.flatMap e) (l.flatMap e')
 | []=>trivial
 | x :: l=>by simp only[List.flatMap_cons];exact(h x).app (Ds.Le.flat h l)
section
variable{P:Program}{Γ:TypeId→Option TI}{F N:Nat}{Q:GPost}{fr fr':Fr}{hp hp':List Ob}{ks:List Kt}
variable{α:Type}{enc enc':α→List D}{ops:Array Oper}{rest:List Oper}{g:G}
variable{d:Tmp}{op:Op}{ty:TypeId}{pos:String}{after:Array Edge}{gd:Option (Nat×Bool)}
end
end Go.Gk
namespace Go.Gk
def rangeL{α σ:Type}(f:α→σ→Option σ):List α→σ→Option σ
 | [],s=>some s
 | x :: l,s=>match f x s with
  | some s'=>rangeL f l s'
  | none=>none
noncomputable def rangeP {α σ:Type} (f:α→σ→Option σ) (m:List α) (s:σ):Option σ:=
 open Classical in if h:∃ r,∀ m':List α,m'.Perm m→rangeL f m' s=some r then some (Classical.choose h) else none
theorem Kjv{α σ:Type}{f:α→σ→Option σ}{m:List α}{s r:σ}:rangeP f m s=some r ↔ ∀ m':List α,m'.Perm m→rangeL f m' s=some r:=by
 unfold rangeP
 constructor
 ·intro h
  split at h
  ·rename_i hx
   cases h
   exact Classical.choose_spec hx
  cases h
 intro h
 have hx:∃ r,∀ m':List α,m'.Perm m→rangeL f m' s=some r:=⟨r,h⟩
 rw[dif_pos hx]
 have h1:=Classical.choose_spec hx m (.refl _)
 rw[h m (.refl _)] at h1
 exact h1.symm
def remL{α:Type}(l:List (α×Nat))(seen:List Nat):List α:=(l.filter fun e=>!seen.contains e.2).map (·.1)
theorem Kjw{α:Type}{l:List (α×Nat)}{seen:List Nat}(h:∀ e∈l,e.2∈seen):remL l seen=[]:=by
 unfold remL
 rw[List.filter_eq_nil_iff.2 fun e he=>by simpa using h e he]
 rfl
theorem Kjx{α:Type}{l:List (α×Nat)}{seen:List Nat}{b:Nat}(h:∀ e∈l,e.2≠b):remL l (seen++[b])=remL l seen:=by
 unfold remL
 rw[List.filter_congr fun e he=>?_]
 have:=h e he
 simp[this]
theorem Kjy{α:Type}{y:α}{b:Nat}{seen:List Nat}(hb:b ∉ seen):∀ {l:List (α×Nat)} {j:Nat},l[j]?=some (y,b)→(l.map (·.2)).Nodup→(remL l seen).Perm (y :: remL l (seen++[b]))
 | [],j,h,_=>by simp at h
 | e :: l,0,h,hn=>by
  simp only[List.getElem?_cons_zero,Option.some.injEq] at h
  subst h
  have hn':=List.nodup_cons.1 (by simpa using hn:(b :: l.map (·.2)).Nodup)
  have hc:=Kjx (l:=l) (seen:=seen) (b:=b) fun e he hx=>hn'.1 (by rw[←hx];exact List.mem_map.2 ⟨e,he,rfl⟩)
  unfold remL at hc ⊢
  simp only[List.filter_cons]
  have h1:(!seen.contains b)=true:=by simpa using hb
  have h2:(!(seen++[b]).contains b)=false:=by simp
  rw[if_pos h1,if_neg (by rw[h2];exact Bool.false_ne_true),List.map_cons,hc]
 | e :: l,j+1,h,hn=>by
  have hn':=List.nodup_cons.1 (by simpa using hn:(e.2 :: l.map (·.2)).Nodup)
  have ih:=Kjy hb (l:=l) (j:=j) (by simpa using h) hn'.2
  have hne:e.2≠b:=fun hx=>hn'.1 (by rw[hx];exact List.mem_map.2 ⟨(y,b),mOg (by simpa using h),rfl⟩)
  unfold remL at ih ⊢
  simp only[List.filter_cons]
  by_cases hs:e.2∈seen
  ·have h1:(!seen.contains e.2)=false:=by simpa using hs
   have h2:(!(seen++[b]).contains e.2)=false:=by simp[hs]
   rw[if_neg (by rw[h1];exact Bool.false_ne_true),if_neg (by rw[h2];exact Bool.false_ne_true)]
   exact ih
  have h1:(!seen.contains e.2)=true:=by simpa using hs
  have h2:(!(seen++[b]).contains e.2)=true:=by simp[hs,hne]
  rw[if_pos h1,if_pos h2,List.map_cons,List.map_cons]
  exact(ih.cons _).trans (.swap _ _ _)
section
variable{P:Program}{Γ:TypeId→Option TI}{F N:Nat}{Q:GPost}{fr fr':Fr}{hp hp':List Ob}{ks:List Kt}
variable{ops:Array Oper}{rest:List Oper}{g:G}
variable{d:Tmp}{op:Op}{ty:TypeId}{pos:String}{after:Array Edge}{gd:Option (Nat×Bool)}
theorem Kjz{Z:Env}{M:Mp}{w:World}(hr:RelH Z hp M w){id:Nat}{o o':Ob}(ho:hp[id]?=some o)(hl:o.live=true)(hl':o'.live=true)
  (h:∀ m,M.l[id]?=some m→ObR w (ownZ Z hp M) M o m→ObR w (ownZ Z hp M) M o' m) (hob:o.isBag=false:=by rfl) (hob':o'.isBag=false:=by rfl):RelH Z (hp.set id o') M w∧own (hp.set id o') M=own hp M:=by
 have hid:id<hp.length:=(gEs.1 ho).1
 have hcase:∀ (i:Nat) (q:Ob),(hp.set id o')[i]?=some q→(i≠id∧hp[i]?=some q)∨(i=id∧q=o'):=fun i q hq=>by
  by_cases hii:i=id
  ·subst hii;simp[hid] at hq;exact .inr ⟨rfl,hq.symm⟩
  ·rw[gSn (Ne.symm hii)] at hq;exact .inl ⟨hii,hq⟩
 have hb1:∀ b,obOwn (hp.set id o') M b→obOwn hp M b:=by
  rintro b ⟨i,q,c,h1,h2,h3⟩
  rcases hcase i q h1 with⟨_,h4⟩ | ⟨rfl,rfl⟩
  ·exact⟨i,q,c,h4,h2,h3⟩
  ·exact⟨i,o,c,ho,hl,h3⟩
 have hb2:∀ b,obOwn hp M b→obOwn (hp.set id o') M b:=by
  rintro b ⟨i,q,c,h1,h2,h3⟩
  by_cases hii:i=id
  ·subst hii;exact⟨i,o',c,by simp[hid],hl',h3⟩
  ·exact⟨i,q,c,by rw[gSn (Ne.symm hii)];exact h1,h2,h3⟩
 have hg:hasBag (hp.set id o') ↔ hasBag hp:=⟨fun g=>g.of (Koe hob'),fun ⟨i,al,ar,lt,k⟩=>⟨i,al,ar,lt,by rw[gSn (fun e=>by subst e;rw[ho] at k;cases k;cases hob)];exact k⟩⟩
 have hO:own (hp.set id o') M=own hp M:=Koc (fun b=>⟨fun h=>h.imp (hb1 b) fun ⟨g,h⟩=>⟨hg.1 g,h⟩,fun h=>h.imp (hb2 b) fun ⟨g,h⟩=>⟨hg.2 g,h⟩⟩) rfl hg
 have hOZ:ownZ Z (hp.set id o') M=ownZ Z hp M:=by unfold ownZ;rw[hO]
 refine⟨⟨by simp[hr.len],fun i q m h1 h2=>?_,fun b hb=>hr.apart b (by rw[←hO];exact hb),hr.old,hr.amb,fun i j oi oj b c c' hi hj li lj mi mj=>?_,hr.bags.mono rfl (Nat.le_refl _) (fun b _=>hb1 b) (Koe hob')⟩,hO⟩
 ·rw[hOZ]
  rcases hcase i q h1 with⟨_,h4⟩ | ⟨rfl,rfl⟩
  ·exact hr.obj i q m h4 h2
  ·exact h m h2 (hr.obj _ _ m ho h2)
 ·have key:∀ (i:Nat) (oi:Ob),(hp.set id o')[i]?=some oi→oi.live=true→∃ oi':Ob,hp[i]?=some oi'∧oi'.live=true:=fun i oi e1 l1=>by
   rcases hcase i oi e1 with⟨_,h4⟩ | ⟨rfl,rfl⟩
   ·exact⟨oi,h4,l1⟩
   ·exact⟨_,ho,hl⟩
  obtain⟨oi',f1,f2⟩:=key i oi hi li
  obtain⟨oj',f3,f4⟩:=key j oj hj lj
  exact hr.inj i j oi' oj' b c c' f1 f3 f2 f4 mi mj
theorem Kka{Z:Env}{M:Mp}{w:World}(hr:RelH Z hp M w)(id:Nat):RelH Z (hp.set id .dead) M w∧Stp w (own hp M) w (own (hp.set id .dead) M):=by
 have hcase:∀ (i:Nat) (q:Ob),(hp.set id .dead)[i]?=some q→(i≠id∧hp[i]?=some q)∨(i=id∧q=.dead):=fun i q hq=>by
  by_cases hii:i=id
  ·subst hii
   have hlt:=(gEs.1 hq).1
   simp at hlt
   simp[hlt] at hq
   exact .inr ⟨rfl,hq.symm⟩
  rw[gSn (Ne.symm hii)] at hq;exact .inl ⟨hii,hq⟩
 have hobo:∀ b,obOwn (hp.set id .dead) M b→obOwn hp M b:=by
  rintro b ⟨i,q,c,h1,h2,h3⟩
  rcases hcase i q h1 with⟨_,h4⟩ | ⟨rfl,rfl⟩
  ·exact⟨i,q,c,h4,h2,h3⟩
  cases h2
 have hown:∀ b,own (hp.set id .dead) M b→own hp M b:=fun b h=>Kod h (hobo b) (fun g=>g.of (Koe rfl)) rfl
 have hst:Stp w (own hp M) w (own (hp.set id .dead) M):=.still (fun b _ h=>hown b h) rfl fun g=>g.of (Koe rfl)
 refine⟨⟨by simp[hr.len],fun i q m h1 h2=>?_,fun b hb=>hr.apart b (hown b hb),hr.old,hr.amb,fun i j oi oj b c c' hi hj li lj mi mj=>?_,hr.bags.mono rfl (Nat.le_refl _) (fun b _=>hobo b) (Koe rfl)⟩,hst⟩
 ·rcases hcase i q h1 with⟨_,h4⟩ | ⟨rfl,rfl⟩
  ·have:=hr.obj i q m h4 h2
   exact this.move (k:=M.l.length) (Koi Z hst) (fun _ _=>rfl) this.bel (fun _ _ _ _=>rfl) (fun _ _ _ _=>⟨rfl,fun _ _ _=>rfl⟩)
  cases m<;>trivial
 rcases hcase i oi hi with⟨_,h4⟩ | ⟨rfl,rfl⟩
 ·rcases hcase j oj hj with⟨_,h5⟩ | ⟨rfl,rfl⟩
  ·exact hr.inj i j oi oj b c c' h4 h5 li lj mi mj
  cases lj
 cases li
theorem Kkb{Z:Env}{M:Mp}{w:World}(hr:RelH Z hp M w):RelH Z hp M w.drew∧Stp w (own hp M) w.drew (own hp M):=by
 have hdr:Stp w (own hp M) w.drew (own hp M):=.mk' (Nat.le_refl _) (fun _ _ _=>rfl) (fun _ _ h=>h) rfl rfl rfl rfl (fun g=>g) fun _ _ _=>rfl
 refine⟨⟨hr.len,fun i o m h1 h2=>?_,hr.apart,hr.old,hr.amb_stp hdr,hr.inj,hr.bags.mono rfl (Nat.le_refl _) (fun _ _ h=>h) (fun _ _ _ _ h=>h)⟩,hdr⟩
 have:=hr.obj i o m h1 h2
 exact this.move (k:=M.l.length) (Koi Z hdr) (fun _ _=>rfl) this.bel (fun _ _ _ _=>rfl) (fun _ _ _ _=>⟨rfl,fun _ _ _=>rfl⟩)
theorem Kkc{ms:Array MapEntry}{cl:Nat}(h:Born ms cl):(ms.toList.map (·.born)).Nodup:=by
 rw[List.nodup_iff_pairwise_ne,List.pairwise_map,List.pairwise_iff_getElem]
 intro i j hi hj hij he
 have:=h.1 i j (ms.toList[i]) (ms.toList[j]) (by simp) (by simp) he
 omega
variable{K V:Type}[BEq K][KLt K]{kv:K→Value}{agg:Bool}{enc:V→List D}
abbrev rawM(kv:K→Value)(enc:V→List D)(m':List (K×V))(bs:List Nat)(cl:Nat):Option (List (Value×List D)×List Nat×Nat):=some (m'.map (fun e=>(kv e.1,enc e.2)),bs,cl)
theorem Kkd(hΓ:TOK P Γ){t kt et:TypeId}{i1:TI}{x:Operand}{id:Nat}(m:List (K×V))(h1:Γ t=some i1)(h1':i1.desc=.map kt et)(hx:fr.ev x=some (.map id))(ho:hp[id]?=some (mOb kv agg enc m))(hd:Nat.blt d N=true)(hF:F≤hp.length)
  (k:∀ (m':List (K×V)) (bs:List Nat) (cl:Nat),m'.Perm m→bs.length=m'.length→bs.Nodup→EO P F N ops rest Q ((d,.ptr hp.length 0) :: fr) (hp.set id (mObS kv agg enc m (rawM kv enc m' bs cl))++[.iter id cl []])) :
  EO P F N ops (⟨some d,.range t x,ty,pos,after,none⟩ :: rest) Q fr hp:=by
 intro Z w0 O0 M0 w M a hs ha hr
 refine wpList_plain rfl fun K' hK'=>?_
 obtain⟨u1,_⟩:=hΓ t _ h1
 rw[h1'] at u1
 have hvx:=hr.ev hx
 unfold Oper.wp
 simp only[execOp]
 generalize a.eval x=vx at hvx
 cases hvx with
 | map hM=>
  rename_i b c
  obtain⟨m',ms,cl,hA⟩:=Kjp hr.heap ho hM
  have hrun:=run_range_map (P:=P) w t kt et b ms cl u1 hA.heap
  have hbl:(ms.toList.map (·.born)).length=m'.length:=by simp[hA.size]
  have hbn:=Kkc hA.born
  obtain⟨r1,r2⟩:=Kjz hr.heap ho (o':=mObS kv agg enc m (rawM kv enc m' (ms.toList.map (·.born)) cl)) rfl rfl fun q hq hob=>by
   rw[hM] at hq
   cases hq
   exact⟨ms,cl,_,hA.heap,hA.perm.map _,List.pairwise_map.2 hA.apart,fun raw h=>(by cases h;rfl),by simpa using hA.size,hA.born,fun j k' ds hj=>by
    rw[gMp] at hj
    obtain⟨y,hy,he⟩:=oMs.1 hj
    simp only[Prod.mk.injEq] at he
    obtain⟨rfl,rfl⟩:=he
    exact hA.get j y hy⟩
  obtain⟨q1,q2,q3⟩:=Kjl r1 (.iter id cl []) (.mapIter (some b) cl #[] cl) 0 (fun w' O' hst hh=>⟨b,c,by rw[gAl (Mp.lt hM)];exact hM,hh⟩)
  have hrun2:(do let v←Instr.range t (.map (some b));pure (Next.value v):Sem Next).run P w=.ok (.value (.pointer (some ⟨w.heap.size,0,none⟩))) (w.alloc (.mapIter (some b) cl #[] cl)):=by
   simp[hrun]
  rw[hrun2,Oper.upon_value]
  have hlen:(hp.set id (mObS kv agg enc m (rawM kv enc m' (ms.toList.map (·.born)) cl))).length=hp.length:=by simp
  rw[r2] at q2
  rw[hlen] at q3
  exact hK' _ _ (k m' _ cl hA.perm hbl hbn Z w0 O0 M0 _ _ _ (hs.trans q2) (ha.trans q3 hF) ((hr.later q1 q2 q3).put (nblt.1 hd) (.ptr (c:=0) (by rw[←hr.heap.len];simp))))
theorem Kke{x:Operand}{mid iid:Nat}(m m':List (K×V))(bs:List Nat)(cl:Nat)(seen:List Nat)(hp1:List Ob)(hx:fr.ev x=some (.ptr iid 0))(ho:hp[iid]?=some (.iter mid cl seen))(hm:hp[mid]?=some (mObS kv agg enc m (rawM kv enc m' bs cl)))
  (hend:(hp.set mid (mOb kv agg enc m)).set iid .dead=hp1) (hd:Nat.blt d N=true) (hF:F≤hp.length)
  (k0:(∀ b∈bs,b∈seen)→EO P F N ops rest Q ((d,.tup [.d (.v (.bool false))]) :: fr) hp1)
  (k1:∀ (j:Nat) (y:K×V) (b:Nat),m'[j]?=some y→bs[j]?=some b→b ∉ seen→EO P F N ops rest Q ((d,.tup [.d (.v (.bool true)),.junk,.junk]) :: fr) (hp.set iid (.iter mid cl (seen++[b])))) :
  EO P F N ops (⟨some d,.next x false,ty,pos,after,none⟩ :: rest) Q fr hp:=by
 intro Z w0 O0 M0 w M a hs ha hr
 refine wpList_plain rfl fun K' hK'=>?_
 have hvx:=hr.ev hx
 unfold Oper.wp
 simp only[execOp]
 generalize a.eval x=vx at hvx
 cases hvx with
 | ptr hM=>
  rename_i b c
  obtain⟨bm,cM,hMm,hit⟩:=hr.heap.obj iid _ _ ho hM
  obtain⟨m2,ms,cl2,hA⟩:=Kjp hr.heap hm hMm
  have hraw:=hA.raw _ rfl
  simp only[Prod.mk.injEq] at hraw
  obtain⟨e1,rfl,rfl⟩:=hraw
  rcases run_next_at (P:=P) w ty b bm cl cl seen.toArray ms cl hit hA.heap (fun e he=>by
    obtain⟨j,hj⟩:=List.getElem?_of_mem he
    exact hA.born.2 j e (by simpa using hj)) (Nat.le_refl _) with⟨h0,hrun⟩ | ⟨e,he,w1,hw1,hrun⟩
  ·obtain⟨r1,r2⟩:=Kjz hr.heap hm (o':=mOb kv agg enc m) rfl rfl fun q hq hob=>by
    rw[hMm] at hq
    cases hq
    obtain⟨ms',cl',es',q1,q2,q3,q4,q5⟩:=hob
    exact⟨ms',cl',es',q1,q2,q3,fun raw h=>(by cases h),q5⟩
   obtain⟨r3,r4⟩:=Kka r1 iid
   rw[hend] at r3 r4
   rw[r2] at r4
   have hrun2:(do let v←Instr.next (.pointer (some ⟨b,0,none⟩)) false ty;pure (Next.value v):Sem Next).run P w=.ok (.value (.tuple #[.bool false])) w:=by simp[hrun]
   rw[hrun2,Oper.upon_value]
   have hlen:hp1.length=hp.length:=by rw[←hend];simp
   have hag:Agr hp.length M M:=⟨Nat.le_of_eq hr.heap.len.symm,fun _ _=>rfl⟩
   refine hK' _ _ (k0 (fun b' hb'=>?_) Z w0 O0 M0 _ _ _ (hs.trans r4) ha ((hr.later r3 r4 hag).put (nblt.1 hd) (.tup rfl fun j g v hg hv=>?_)))
   ·obtain⟨e,he,rfl⟩:=List.mem_map.1 hb'
    have hz:=Array.eq_empty_of_size_eq_zero h0
    unfold leftOf at hz
    rw[Array.filter_eq_empty_iff] at hz
    have:=hz e (by simpa using he)
    simpa using this
   ·match j with
    | 0=>cases hg;cases hv;exact .d (.v _ rfl)
    | j+1=>cases hg
  ·have hr1:RelH Z hp M w1∧Stp w (own hp M) w1 (own hp M):=by
    rcases hw1 with rfl | rfl
    ·exact⟨hr.heap,.refl _ _⟩
    ·exact Kkb hr.heap
   have he':e∈ms∧e.born ∉ seen:=by
    unfold leftOf at he
    simpa using he
   obtain⟨j,hj⟩:=Array.getElem?_of_mem he'.1
   have hj2:j<m2.length:=by rw[←hA.size];exact(aEs.1 hj).1
   have hj3:j<m'.length:=by
    have:=congrArg List.length e1
    simp at this
    omega
   obtain⟨r1,r2⟩:=Kjm (o':=.iter mid cl (seen++[e.born])) (ob':=.mapIter (some bm) cl (seen.toArray.push e.born) cl) hr1.1 ho rfl hM (fun w' hst hh=>⟨bm,cM,hMm,by simpa using hh⟩) rfl
   have hrun2:(do let v←Instr.next (.pointer (some ⟨b,0,none⟩)) false ty;pure (Next.value v):Sem Next).run P w=.ok (.value (.tuple #[.bool true,e.key,e.val])) { w1 with heap:=w1.heap.setIfInBounds b (.mapIter (some bm) cl (seen.toArray.push e.born) cl) }:=by
    simp[hrun,ChangeMaps.setBlock]
   rw[hrun2,Oper.upon_value]
   have hag:Agr hp.length M M:=⟨Nat.le_of_eq hr.heap.len.symm,fun _ _=>rfl⟩
   refine hK' _ _ (k1 j _ e.born (gGe hj3) ?_ he'.2 Z w0 O0 M0 _ _ _ (hs.trans (hr1.2.trans r2)) ha ((hr.later r1 (hr1.2.trans r2) hag).put (nblt.1 hd) (.tup rfl fun j g v hg hv=>?_)))
   ·rw[gMp]
    simp[hj]
   ·match j with
    | 0=>cases hg;cases hv;exact .d (.v _ rfl)
    | 1=>cases hg;cases hv;exact .junk _
    | 2=>cases hg;cases hv;exact .junk _
    | j+3=>cases hg
theorem Kkf{x:Operand}{mid iid:Nat}(m m':List (K×V))(bs:List Nat)(cl:Nat)(seen:List Nat){j b:Nat}{y:K×V}{gv:G}(hj:m'[j]?=some y)(hb:bs[j]?=some b)(hx:fr.ev x=some (.ptr iid 0))(ho:hp[iid]?=some (.iter mid cl (seen++[b])))(hm:hp[mid]?=some (mObS kv agg enc m (rawM kv enc m' bs cl)))
  (hg:dG agg (enc y.2)=some gv) (hkv:∀ a:K,(kv a).oneCell'=true):OpP P N ⟨some d,.entry x,ty,pos,after,gd⟩ fr hp (.tup [.d (.v (kv y.1)),gv]):=fun Z w M a hr=>by
 have hvx:=hr.ev hx
 simp only[execOp]
 generalize a.eval x=vx at hvx
 cases hvx with
 | ptr hM=>
  rename_i b' c
  obtain⟨bm,cM,hMm,hit⟩:=hr.heap.obj iid _ _ ho hM
  obtain⟨m2,ms,cl2,hA⟩:=Kjp hr.heap hm hMm
  have hraw:=hA.raw _ rfl
  simp only[Prod.mk.injEq] at hraw
  obtain⟨e1,rfl,rfl⟩:=hraw
  rw[gMp] at hb
  obtain⟨e,he,rfl⟩:=oMs.1 hb
  have he':ms[j]?=some e:=by simpa using he
  have hj2:j<m2.length:=by rw[←hA.size];exact(aEs.1 he').1
  obtain⟨e2,f1,f2,f3⟩:=hA.get j _ (gGe hj2)
  rw[he'] at f1
  cases f1
  have hpair:(kv y.1,enc y.2)=(kv m2[j].1,enc m2[j].2):=by
   have:=congrArg (fun l=>l[j]?) e1
   simp only[List.getElem?_map,hj,List.getElem?_eq_getElem hj2,Option.map_some,Option.some.injEq] at this
   exact this
  simp only[Prod.mk.injEq] at hpair
  have hrun:=run_entry_at (P:=P) w b' bm cl seen.toArray ms cl e (by simpa using hit) hA.heap (mOg he) (Kkc hA.born)
  refine⟨.tuple #[e.key,e.val],by simp[hrun],.tup rfl fun i g v hg' hv=>?_⟩
  match i with
  | 0=>
   cases hg';cases hv
   rw[f2,hpair.1]
   exact .d (.v _ (hkv _))
  | 1=>
   cases hg';cases hv
   rw[hpair.2] at hg
   exact f3.vr hg
  | i+2=>cases hg'
theorem Kkg{σ:Type}{c:Code}{f:K×V→σ→Option σ}{s0 r:σ}{m m':List (K×V)}{bs:List Nat}(h:rangeP f m s0=some r)(hpm:m'.Perm m)(hl:bs.length=m'.length)(hn:bs.Nodup)
  (st:σ→Fr) (ob:List Nat→σ→List Ob) (hm:MidP F (st s0) (ob [] s0) fr hp)
  (round:∀ (seen:List Nat) (s:σ),((∀ b∈bs,b∈seen)→r=s)→(∀ (j:Nat) (y:K×V) (b:Nat),m'[j]?=some y→bs[j]?=some b→b ∉ seen→∃ s',f y s=some s')→
   St.holds P F N Q (.code c (.mid (fun fr' hp'=>∃ (j:Nat) (y:K×V) (b:Nat) (s':σ),m'[j]?=some y∧bs[j]?=some b∧b ∉ seen∧f y s=some s'∧MidP F (st s') (ob (seen++[b]) s') fr' hp') :: ks)) (st s) (ob seen s)) :
  St.holds P F N Q (.code (.loop c) ks) fr hp:=by
 have hz:(m'.zip bs).map (·.2)=bs:=List.map_snd_zip (by omega)
 have hz1:(m'.zip bs).map (·.1)=m':=List.map_fst_zip (by omega)
 refine Kdr hm ?_
 refine Kox (fun n fr hp=>∃ seen s,n=(remL (m'.zip bs) seen).length∧(∀ l,l.Perm (remL (m'.zip bs) seen)→rangeL f l s=some r)∧fr=st s∧hp=ob seen s) _ ⟨[],s0,rfl,fun l hl'=>?_,rfl,rfl⟩ ?_
 ·refine Kjv.1 h l (hl'.trans ?_)
  have:remL (m'.zip bs) []=m':=by
   unfold remL
   rw[List.filter_eq_self.2 fun e _=>by simp,hz1]
  rw[this]
  exact hpm
 rintro n fr hp ⟨seen,s,rfl,hI,rfl,rfl⟩
 have hstep:∀ (j:Nat) (y:K×V) (b:Nat),m'[j]?=some y→bs[j]?=some b→b ∉ seen→∃ s',f y s=some s'∧(∀ l,l.Perm (remL (m'.zip bs) (seen++[b]))→rangeL f l s'=some r)∧(remL (m'.zip bs) (seen++[b])).length<(remL (m'.zip bs) seen).length:=fun j y b hj hb hns=>by
  have hp:=Kjy hns (l:=m'.zip bs) (j:=j) (by rw[List.getElem?_zip_eq_some];exact⟨hj,hb⟩) (by rw[hz];exact hn)
  have h1:=hI _ hp.symm
  simp only[rangeL] at h1
  cases hs:f y s with
  | none=>rw[hs] at h1;cases h1
  | some s'=>
   refine⟨s',rfl,fun l hl'=>?_,by have:=hp.length_eq;simp at this;omega⟩
   have h2:=hI (y :: l) ((hl'.cons y).trans hp.symm)
   simp only[rangeL,hs] at h2
   exact h2
 refine Koo (round seen s (fun hd=>?_) fun j y b hj hb hns=>let ⟨s',h1,_⟩:=hstep j y b hj hb hns;⟨s',h1⟩) fun e fr' hp' h'=>?_
 ·have h0:remL (m'.zip bs) seen=[]:=Kjw fun e he=>hd e.2 (by rw[←hz];exact List.mem_map.2 ⟨e,he,rfl⟩)
  have:=hI [] (by rw[h0])
  cases this
  rfl
 ·cases e with
  | normal=>
   obtain⟨j,y,b,s',hj,hb,hns,hs,hm'⟩:=h'
   obtain⟨s2,h1,h2,h3⟩:=hstep j y b hj hb hns
   rw[hs] at h1
   cases h1
   obtain⟨ex,e1,e2,e3⟩:=hm'.ex
   exact⟨_,st s',ob (seen++[b]) s',ex,h3,⟨seen++[b],s',rfl,h2,rfl,rfl⟩,e1,e2,e3⟩
  | _=>exact h'
theorem Kkh(id:Nat):∀ Z w M a,Rel Z hp M w fr a N→∃ M',Rel Z (hp.set id .dead) M' w fr a N∧Stp w (own hp M) w (own (hp.set id .dead) M')∧Agr hp.length M M':=fun Z w M a hr=>
 let ⟨h1,h2⟩:=Kka hr.heap id
 have hag:Agr hp.length M M:=⟨Nat.le_of_eq hr.heap.len.symm,fun _ _=>rfl⟩
 ⟨M,hr.later h1 h2 hag,h2,hag⟩
theorem Kki{M:Fr→List Ob→Prop}(id:Nat)(hp2:List Ob)(h2:hp.set id .dead=hp2)(hF:F≤hp.length)(k:Cv F N M fr hp2):Cv F N M fr hp:=by
 subst h2
 exact Kia hF (Kkh id) k
theorem Kkj{Z:Env}{M:Mp}{w:World}(hr:RelH Z hp M w)(os:Array Obj):RelH Z hp M (Sort.grow w os)∧Stp w (own hp M) (Sort.grow w os) (own hp M):=by
 have hold:∀ b,b<w.heap.size→(Sort.grow w os).heap[b]?=w.heap[b]?:=fun b hb=>by
  show(w.heap++os)[b]?=_
  rw[Array.getElem?_append_left hb]
 have htags:∀ x:Tg,some x∈M.h→(Sort.grow w os).heap[x.b]?=w.heap[x.b]?:=fun x hx=>hold _ (hr.bags.tgs x hx).1
 have hst:Stp w (own hp M) (Sort.grow w os) (own hp M):=.mk' (by show w.heap.size≤(w.heap++os).size;simp) (fun b hb _=>hold b hb) (fun _ _ h=>h) rfl rfl rfl rfl (fun g=>g) fun x hx _=>htags x hx
 refine⟨⟨hr.len,fun i o m h1 h2=>?_,hr.apart,fun b hb=>nLl (hr.old b hb) hst.size,hr.amb_stp hst,hr.inj,hr.bags.mono rfl hst.size (fun _ _ h=>h) (fun _ _ _ _ h=>h)⟩,hst⟩
 have:=hr.obj i o m h1 h2
 refine this.move (k:=M.l.length) (Koi Z hst) (fun _ _=>rfl) this.bel (fun b c e hl=>?_) fun _ _ _ _=>⟨rfl,fun x hx _=>htags x hx⟩
 subst e
 exact hold b (hr.block_ob ⟨i,o,c,h1,hl,h2⟩)
theorem EC.of_putRowG{α:Type}[Inhabited α]{f:FuncId}{t:TypeId}{n:Nat}{enc:α→Value}{d d':Array α}(h1:∀ x,(enc x).oneCell'=true)(hn:d.size=n)(hn':d'.size=n)
  (h0:n=0→∀ w,Calls P f #[.slice none 0 0] w fun e w'=>e=.returned (.tuple #[])∧w'=w)
  (h:∀ w b c,b<w.heap.size→Sort.Holds enc w b 0 d→Calls P f #[.slice (some ⟨b,0,none⟩) n c] w fun e w'=>e=.returned (.tuple #[])∧∃ k os,w'=Sort.grow (Sort.putRow enc (Sort.ahead w k) b 0 d') os) :
  EC P f [.sl 0 n] [.row t 1 n (d.toList.map fun x=>.v (enc x))] fun g hp'=>g=.tup []∧hp'=[.row t 1 n (d'.toList.map fun x=>.v (enc x))]:=by
 intro Z w M vs hr hsz hvs
 obtain⟨v,rfl⟩:∃ v,vs=#[v]:=by
  have:vs.size=1:=hsz
  exact⟨vs[0],by apply Array.ext;simp[this];intro i h1 h2;simp at h2;subst h2;rfl⟩
 have hv:=hvs 0 _ v rfl rfl
 cases hv with
 | slnil hM=>
  refine(h0 rfl w).mono ?_
  rintro e w' ⟨rfl,rfl⟩
  have hd:d.toList=[]:=by simpa using hn
  have hd':d'.toList=[]:=by simpa using hn'
  refine⟨_,.tup [],_,M,rfl,⟨rfl,rfl⟩,?_,.tup rfl (fun j g v hg=>by simp at hg),(by rw[hd,hd'];exact Stp.refl _ _),⟨by rw[hr.len];exact Nat.le_refl _,fun _ _=>rfl⟩⟩
  rw[hd'] ;rw[hd] at hr;exact hr
 | sl hM hle hm=>
  rename_i b c
  obtain⟨hlen,cs,hb,hcs,hnc,hcm,hdata⟩:=hr.obj 0 _ _ rfl hM
  have hH:Sort.Holds enc w b 0 d:=fun j hj=>by
   have hdj:(d.toList.map fun x=>D.v (enc x))[j]?=some (.v (enc d[j])):=by simp[hj]
   obtain⟨v,e1,e2⟩:=hdata j _ hdj
   cases e2
   refine⟨?_,?_⟩
   ·have:j<cs.size:=(aEs.1 e1).1
    simp only[World.cell?,Nat.zero_add,hb]
    rw[getElem!_pos d j hj]
    simpa using e1
   ·simp only[World.frozen?,hb]
    simp
  refine(h w b c (aEs.1 hb).1 hH).mono ?_
  rintro e w' ⟨rfl,k,os,rfl⟩
  have hblk:(Sort.putRow enc (Sort.ahead w k) b 0 d').heap[b]?=some (.cells (Sort.putCells enc 0 d' cs) t (0,0)):=by
   simp only[Sort.putRow,Sort.mapBlock,Sort.heap_ahead,Array.getElem?_modify,if_true,hb]
   rfl
  obtain⟨r1,r2⟩:=Kdc hr (id:=0) (o':=.row t 1 n (d'.toList.map fun x=>.v (enc x))) rfl rfl hM (w':=Sort.putRow enc (Sort.ahead w k) b 0 d') (by simp[Sort.putRow,Sort.mapBlock]) (fun j hj=>by
   simp only[Sort.putRow,Sort.mapBlock,Sort.heap_ahead,Array.getElem?_modify]
   simp[Ne.symm hj]) rfl rfl rfl (fun hst=>⟨by simp[hn'],_,hblk,by simp[Sort.putCells];omega,hnc,hcm,fun j dd hj=>by
    rw[gMp] at hj
    obtain⟨x,hx,rfl⟩:=oMs.1 hj
    have hjd:j<d'.size:=by
     have:=(gEs.1 hx).1
     simpa using this
    refine⟨enc x,?_,.v _ (h1 x)⟩
    have hcj:j<cs.size:=by omega
    simp only[Sort.putCells,Array.getElem?_mapIdx,Array.getElem?_eq_getElem hcj,Option.map_some]
    rw[if_pos ⟨Nat.zero_le _,by omega⟩,Nat.sub_zero,getElem!_pos d' j hjd]
    have:d'[j]=x:=by
     have e:=(gEs.1 hx).2
     simpa using e
    rw[this]⟩) rfl
  obtain⟨q1,q2⟩:=Kkj r1 os
  exact⟨_,.tup [],_,M,rfl,⟨rfl,rfl⟩,q1,.tup rfl (fun j g v hg=>by simp at hg),r2.trans q2,⟨by rw[hr.len];exact Nat.le_refl _,fun _ _=>rfl⟩⟩
end
end Go.Gk
namespace Go.Gk
def strCells(s:List UInt8):List Value:=s.map fun b=>Value.int .u8 b.toNat
section
variable{P:Program}(w:World)
end
def strD(s:List UInt8):List D:=s.map fun b=>D.v (.int .u8 b.toNat)
section
variable{P:Program}{Γ:TypeId→Option TI}{F N:Nat}{Q:GPost}{fr fr':Fr}{hp hp':List Ob}{ks:List Kt}
variable{α:Type}{enc:α→List D}{ops:Array Oper}{rest:List Oper}{g:G}
variable{d:Tmp}{op:Op}{ty:TypeId}{pos:String}{after:Array Edge}{gd':Option (Nat×Bool)}{t':TypeId}
theorem Kkk{c:Code}(id:Nat)(hp2:List Ob)(h2:hp.set id .dead=hp2)(hF:F≤hp.length)(k:St.holds P F N Q (.code c ks) fr hp2):St.holds P F N Q (.code c ks) fr hp:=by
 subst h2
 exact Kfe (Q:=stk P F N Q ks) hF (Kkh id) k
theorem Kkl{M:Fr→List Ob→Prop}(hF:F≤hp.length)(k:Cv F N M fr (hp++[.dead])):Cv F N M fr hp:=by
 intro Z w M1 a hr
 obtain⟨h1,h2⟩:=Kgy Z w M1 a hr
 obtain⟨fr3,hp3,M3,k0,k1,k2,k3⟩:=k Z w _ a h1
 exact⟨fr3,hp3,M3,k0,k1,h2.trans k2,fun M0 ha=>k3 M0 (ha.trans (F':=hp.length) ⟨by simp[hr.heap.len],fun i hi=>gAl (by rw[hr.heap.len];exact hi)⟩ hF)⟩
theorem Kkm{f:FuncId}{fn:Func}{c:Code}{gs:List G}{R:G→List Ob→Prop}(fr0:Fr)(hf:P.funcs[f]?=some fn)(hb:fn.body=some c)
  (hfr:∀ t g,fr0.get t=some g→gs[t]?=some g) (hN:gs.length≤fn.ntmps)
  (h:HB hp.length hp→EW P hp.length fn.ntmps c (fun e fr hp'=>Cv hp.length fn.ntmps (fun fr2 hp2=>Ret P fn hp.length R e fr2 hp2) fr hp') fr0 hp):EC P f gs hp R:=
 Koy fr0 hf hb hfr hN fun hb'=>by
  intro Z w0 O0 M0 w M a hs ha hr
  refine wp_mono (h hb' Z w0 O0 M0 w M a hs ha hr) ?_
  rintro e a w' ⟨fr',hp',M',q,r1,r2,r3⟩
  obtain⟨fr3,hp3,M3,k0,k1,k2,k3⟩:=q Z w' M' a r1
  exact⟨fr3,hp3,M3,k0,k1,r2.trans k2,k3 M0 r3⟩
end
end Go.Gk
