import Derived.Test.YtjmlnnanfkiakaaGreatDoorFHouse
set_option linter.all false
set_option maxRecDepth 100000
namespace Go.Gk
section
variable{v:Lcg}{al:BagT}{A:Ab}{c:Nat}{s:Lby}
theorem Kar(d:Lbx)(z:Int){u:Str}(hu:u≠[]):(if 345686400<wi (z+d.Life) then(345686400:Int) else wi (z+d.Life))=lastA d z u:=by
 unfold lastA
 have:(u==[])=false:=by simpa using hu
 rw[this,cond_false]
 split<;>split<;>omega
theorem Kas{X:Type}{ar:List (Nat×X)}{a:Nat}{x y:X}(h:hGet ar a=some x):hGet (hSet ar a y) a=some y:=by rw[Kbc _ _ _ _ _ h,if_pos rfl]
theorem RH.joined(h:RH v al A c)(hI:AInv A)(k:Str)(m:Lcb)(x:Lcj)(z:Int)(hm:m.Node=k)(hn:(mGet A.st k).isSome=false) :
  RH ⟨v.d,v.keys,mSet v.nodes k (al.1.length+1),mSet v.ever k true,mSet v.History k ((al.1++[false]).length+1,[x].length)⟩ ((al.1++[false])++[true],al.2.1,((al.1++[false]).length,[x]) :: al.2.2.1,(al.1.length,m) :: al.2.2.2.1,al.2.2.2.2.1,al.2.2.2.2.2)
   { setA A z m true with hi:=mSet A.hi k [x] } (c+1):=by
 have hth:mGet v.nodes k=none:=by
  rcases h.nat k with⟨_,_,e⟩ | ⟨a,y,e1,_⟩
  ·exact e
  ·have:=(hI.th k y e1).2.1
   rw[hn] at this;cases this
 have hhi:mGet v.History k=none:=by
  have h1:=hI.hst k
  rw[hn,←h.hi,Kbm,Kam] at h1
  cases hq:mGet v.History k with
  | none=>rfl
  | some w=>rw[hq] at h1;cases h1
 obtain⟨g1,g2⟩:=h.nh.new mac0 h.bag.m k m hth
 have hb:∀ e∈al.2.2.1,e.1<(al.1++[false]).length:=fun e he=>by have:=h.bag.r e he;simp;omega
 obtain⟨r1,r2⟩:=h.hh.new [] hb k [x] (by rw[Kam,hhi];rfl)
 have hmap:hdl (mSet v.History k ((al.1++[false]).length+1,[x].length))=mSet (hdl v.History) k ((al.1++[false]).length+1):=Kbj (fun w:Vl=>w.1) h.hs k _
 refine⟨⟨fun e he=>?_,fun e he=>?_,fun e he=>?_,fun e he=>?_⟩,h.d,h.kh,h.ks,g1,?_,fun k'=>?_,h.hs.set _ _,by rw[hmap];exact r1,fun k' w hw=>?_,by rw[hmap];exact r2.trans (by rw[h.hi])⟩
 ·have:=h.bag.p e he;simp;omega
 ·rcases List.mem_cons.1 he with rfl | he
  ·simp
  ·have:=h.bag.r e he;simp;omega
 ·rcases List.mem_cons.1 he with rfl | he
  ·simp
  ·have:=h.bag.m e he;simp;omega
 ·have:=h.bag.k e he;simp;omega
 ·show absH mac0 _ _=mSet A.th m.Node m
  rw[g2,h.ns,hm]
 ·show(mGet (mSet v.ever k true) k').getD false=(mGet (mSet A.st m.Node _) k').isSome
  rw[Kwv,Kwv,hm]
  cases k'==k with
  | true=>rfl
  | false=>exact h.ev k'
 ·rw[Kwv] at hw
  cases hq:k'==k with
  | true=>
   rw[hq] at hw
   cases hw
   exact⟨[x],Kba _ _ _,rfl,by simp,by simp⟩
  | false=>
   rw[hq] at hw
   obtain⟨z,z1,z2,z3,z4⟩:=h.hl k' w hw
   refine⟨z,?_,z2,z3,by omega⟩
   rw[Kbb _ _ _ _ (Kbg hb z1)]
   exact z1
theorem Kat(h:RH v al A c)(hI:AInv A):∃ v' al',Lfy v s al=some ((joinA A s).1,v',al')∧RH v' al' (joinA A s).2 (c+1):=by
 unfold Lfy joinA
 cases hbj:((s.By:Str)==[]:Bool)==((s.Join:Str)==[]) with
 | true=>exact⟨v,al,rfl,h.up (by omega)⟩
 | false=>
  simp only[cond_false]
  have hat:=h.kat s.Join
  have hz:(((mGet v.keys s.Join).getD 0)==0)=(mGet A.ps s.Join).isNone:=by
   rcases hat with⟨e1,e2,_⟩ | ⟨a,x,e1,e2,e3,e4,e5,e6⟩
   ·rw[e1,e2];rfl
   rw[e1,e3,e6];rfl
  have hq:(bif !((s.By:Str)==[]) then(bi (Ldi v.d.Users s.By) fun y6=>bif !y6 then(some true) else(bif !((s.Join:Str)==[]) then(some (((mGet v.keys s.Join).getD 0)==0)) else(some false))) else(bif !((s.Join:Str)==[]) then(some (((mGet v.keys s.Join).getD 0)==0)) else(some false))) =
    some (bif (s.By:Str)==[] then(mGet A.ps s.Join).isNone else !(A.d.Users.any fun x=>s.By==x)):=by
   rw[hz,Kwy,h.d]
   cases hb:((s.By:Str)==[]) with
   | true=>
    have hj:((s.Join:Str)==[])=false:=by rw[hb] at hbj;simpa using hbj
    rw[hj];rfl
   | false=>
    have hj:((s.Join:Str)==[])=true:=by rw[hb] at hbj;simpa using hbj
    rw[hj]
    simp only[bi_some,Bool.not_true,Bool.not_false,cond_true,cond_false]
    cases (A.d.Users.any fun x=>s.By==x)<;>rfl
  rw[hq,bi_some]
  cases hq2:(bif (s.By:Str)==[] then(mGet A.ps s.Join).isNone else !(A.d.Users.any fun x=>s.By==x)) with
  | true=>exact⟨v,al,rfl,h.up (by omega)⟩
  | false=>
   simp only[cond_false]
   have body:∀ (op:Option Lcf) (rest:Option (BagT×Lcb)),
     ((∃ al1 m A1,rest=some (al1,m)∧RH v al1 A1 c∧AInv A1∧A1.hi=A.hi∧A1.st=A.st∧m.Node=s.Node∧joinC A s op={ setA A1 s.At m true with hi:=mSet A.hi s.Node [⟨s.Public,s.At,345686400⟩] }))→
     ∃ v' al',(bif ((mGet v.ever s.Node).getD false) then(some ((6:Int),v,al)) else(bi (Lfx v s.Public al) fun y49=>bif y49 then(some (13,v,al)) else(bif decide (((v.nodes.length:Int):Int)≥500) then(some (2,v,al)) else(bi rest fun q55=>some ((0:Int),(⟨v.d,v.keys,mSet v.nodes s.Node (q55.1.1.length+1),mSet v.ever s.Node true,mSet v.History s.Node ((q55.1.1++[false]).length+1,[(⟨s.Public,s.At,345686400⟩:Lcj)].length)⟩:Lcg),((q55.1.1++[false])++[true],q55.1.2.1,((q55.1.1++[false]).length,[(⟨s.Public,s.At,345686400⟩:Lcj)]) :: q55.1.2.2.1,(q55.1.1.length,q55.2) :: q55.1.2.2.2.1,q55.1.2.2.2.2.1,q55.1.2.2.2.2.2))))))=some ((joinB A s op).1,v',al')∧RH v' al' (joinB A s op).2 (c+1):=by
    rintro op rest ⟨al1,m,A1,rfl,h1,h2,h3,h4,h5,h6⟩
    unfold joinB
    rw[h.ev s.Node]
    cases hst:(mGet A.st s.Node).isSome with
    | true=>exact⟨v,al,rfl,h.up (by omega)⟩
    | false=>
     simp only[cond_false]
     rw[Kap h,bi_some]
     cases heldA A.th s.Public with
     | true=>exact⟨v,al,rfl,h.up (by omega)⟩
     | false=>
      simp only[cond_false]
      have hlen:v.nodes.length=A.th.length:=by rw[←h.ns,Kbo]
      rw[hlen]
      cases decide ((A.th.length:Int)≥500) with
      | true=>exact⟨v,al,rfl,h.up (by omega)⟩
      | false=>
       simp only[cond_false,bi_some]
       refine⟨_,_,rfl,?_⟩
       have:=h1.joined h2 s.Node m ⟨s.Public,s.At,345686400⟩ s.At h5 (by rw[h4];exact hst)
       rw[h3] at this
       rw[h6]
       exact this
   rcases hat with⟨e1,e2,e3⟩ | ⟨a,x,e1,e2,e3,e4,e5,e6⟩
   ·rw[e1,e2]
    simp only[beq_self_eq_true,Bool.not_true,cond_false,bi_some]
    have hby:s.By≠[]:=fun e=>by
     rw[e,e1] at hq2
     simp at hq2
    refine body none (some (al,⟨s.Node,s.By,s.Name,s.Public,[],s.At,(if 345686400<(wi (s.At+v.d.Life)) then 345686400 else wi (s.At+v.d.Life)),!v.d.Approve⟩)) ⟨al,⟨s.Node,s.By,s.Name,s.Public,[],s.At,lastA A.d s.At s.By,!A.d.Approve⟩,A,?_,h,hI,rfl,rfl,rfl,rfl⟩
    rw[h.d,Kar A.d s.At hby]
   have hjn:s.Join≠[]:=(hI.ps _ _ e1).1
   have hb0:s.By=[]:=by
    have hj:((s.Join:Str)==[])=false:=by simpa using hjn
    rw[hj] at hbj
    simpa using hbj
   have hxb:x.Join.By≠[]:=(hI.ps _ _ e1).2.1
   have hxt:x.Join.Tags.length≤10:=(hI.ps _ _ e1).2.2
   rw[e1,e3,e6]
   simp only[Bool.not_false,cond_true]
   rw[Kcw e5,e4]
   simp only[gd,cond_true,bi_some,Kas e4]
   have hpf:(bif passF (k2p x) s.At != 0 then(passF (k2p x) s.At,A) else joinB A s (some (k2p x)))=(bif (x.revoked||decide (s.At≥x.Join.Until)) then(11,A) else bif decide (x.used≥x.Join.Left) then(12,A) else joinB A s (some (k2p x))):=by
    unfold passF k2p
    cases (x.revoked||decide (s.At≥x.Join.Until)) with
    | true=>rfl
    | false=>cases decide (x.used≥x.Join.Left)<;>rfl
   rw[hpf]
   have hr:(bif x.revoked then some true else some (decide (s.At≥x.Join.Until)))=some (x.revoked||decide (s.At≥x.Join.Until)):=by cases x.revoked<;>rfl
   rw[hr,bi_some]
   cases (x.revoked||decide (s.At≥x.Join.Until)) with
   | true=>exact⟨v,al,rfl,h.up (by omega)⟩
   | false=>
    simp only[cond_false]
    cases decide (x.used≥x.Join.Left) with
    | true=>exact⟨v,al,rfl,h.up (by omega)⟩
    | false=>
     simp only[cond_false]
     have hp1:=h.keyc e2 ⟨x.Join,x.revoked,wi (x.used+1)⟩
     have hI1:AInv { A with ps:=mSet A.ps s.Join (k2p ⟨x.Join,x.revoked,wi (x.used+1)⟩) }:=Kcl hI ⟨hjn,hxb,hxt⟩
     refine body (some (k2p x)) _ ⟨_,⟨s.Node,bif (x.Join.Tags.length:Int)==0 then x.Join.By else s.By,s.Name,s.Public,x.Join.Tags,s.At,lastA A.d s.At (bif (x.Join.Tags.length:Int)==0 then x.Join.By else s.By),!A.d.Approve||x.Join.Ready⟩,_,?_,hp1,hI1,rfl,rfl,rfl,rfl⟩
     have ha:(bif !v.d.Approve then some true else some x.Join.Ready)=some (!A.d.Approve||x.Join.Ready):=by rw[h.d];cases A.d.Approve<;>rfl
     rw[ha,bi_some,Kci hxt,h.d,hb0,Kar A.d s.At hxb]
     cases ht:x.Join.Tags with
     | nil=>rfl
     | cons y l=>
      have e1:(((y :: l).length:Int)==0)=false:=by first | (simp;done) | (simp;omega)
      have e2:decide (((y :: l).length:Int)>0)=true:=by first | (simp;done) | (simp;omega)
      rw[e1,e2]
      rfl
theorem Kau{z:List Lcj}(hz:z≠[])(t:Int):∃ x,z[z.length - 1]?=some x∧closeH z t=z.set (z.length - 1) ⟨x.Public,x.From,t⟩:=by
 have hl:0<z.length:=List.length_pos_iff.2 hz
 have hx:z[z.length - 1]?=some (z[z.length - 1]'(by omega)):=List.getElem?_eq_getElem _
 exact⟨_,hx,by unfold closeH;rw[hx]⟩
theorem RH.hat(h:RH v al A c)(hc:c<100000){k:Str}(hk:(mGet A.hi k).isSome=true):∃ (q:Nat) (n:Nat) (z:List Lcj) (x:Lcj),mGet v.History k=some (q,n)∧0<q∧hGet al.2.2.1 q=some z∧z.length=n∧z≠[]∧z.length≤c∧(mGet A.hi k).getD []=z∧
  (decide ((0:Int)≤wi ((n:Int) - 1))&&Nat.blt (wi ((n:Int) - 1)).toNat n)=true∧getZ z (wi ((n:Int) - 1))=some x∧∀ t,z.set (wi ((n:Int) - 1)).toNat ⟨x.Public,x.From,t⟩=closeH z t:=by
 have e:mGet A.hi k=(mGet v.History k).map fun w=>(hGet al.2.2.1 w.1).getD []:=by
  rw[←h.hi,Kbm,Kam,Option.map_map];rfl
 cases hm:mGet v.History k with
 | none=>rw[e,hm] at hk;cases hk
 | some w=>
  obtain⟨q,n⟩:=w
  obtain⟨z,z1,z2,z3,z4⟩:=h.hl k _ hm
  have hl:0<z.length:=List.length_pos_iff.2 z3
  obtain⟨x,hx,_⟩:=Kau z3 0
  have z2':z.length=n:=z2
  have hw:wi ((n:Int) - 1)=((z.length - 1:Nat):Int):=by rw[Kxl (by omega) (by omega)];omega
  refine⟨q,n,z,x,rfl,Knk z1,z1,z2,z3,z4,by rw[e,hm];simp only[Option.map_some,Option.getD_some];rw[z1];rfl,?_,by rw[hw];exact Kwi hx,fun t=>?_⟩
  ·rw[hw]
   simp only[Int.toNat_natCast,Bool.and_eq_true,decide_eq_true_eq]
   exact⟨by omega,nblt.2 (by omega)⟩
  ·obtain⟨x',hx',e'⟩:=Kau z3 t
   rw[hx] at hx'
   cases hx'
   rw[hw,Int.toNat_natCast,e']
theorem RH.rowc(h:RH v al A c){k:Str}{q n:Nat}{z z':List Lcj}(hm:mGet v.History k=some (q,n))(hz:hGet al.2.2.1 q=some z)(hl:z'.length=z.length):RH v (al.1,al.2.1,hSet al.2.2.1 q z',al.2.2.2) { A with hi:=mSet A.hi k z' } c:=by
 have hmk:mGet (hdl v.History) k=some q:=by rw[Kam,hm];rfl
 obtain⟨g1,g2⟩:=h.hh.set [] hmk z'
 refine⟨⟨h.bag.p,Kbd h.bag.r,h.bag.m,h.bag.k⟩,h.d,h.kh,h.ks,h.nh,h.ns,h.ev,h.hs,g1,fun k' w hw=>?_,?_⟩
 ·obtain⟨y,y1,y2,y3,y4⟩:=h.hl k' w hw
  rw[Kbc _ _ _ _ _ hz]
  by_cases e:w.1=q
  ·rw[e,hz] at y1
   cases y1
   exact⟨z',by rw[if_pos e],by omega,fun e0=>y3 (by rw[e0] at hl;exact List.eq_nil_of_length_eq_zero hl.symm),by omega⟩
  exact⟨y,by rw[if_neg e];exact y1,y2,y3,y4⟩
 show absH [] _ _=mSet A.hi k z'
 rw[g2,h.hi]
theorem RH.rowa(h:RH v al A c)(hc:c<100000){k:Str}{q n:Nat}{z z':List Lcj}(hm:mGet v.History k=some (q,n))(hq:0<q)(hz:hGet al.2.2.1 q=some z)(hl:z'.length=z.length)(hn:z.length=n)(x:Lcj) :
  ∃ w t l,appV al.1 (hSet al.2.2.1 q z') (q,n) [x]=some (w,t,l)∧RH ⟨v.d,v.keys,v.nodes,v.ever,mSet v.History k w⟩ (t,al.2.1,l,al.2.2.2) { A with hi:=mSet A.hi k (z'++[x]) } (c+1):=by
 have hmk:mGet (hdl v.History) k=some q:=by rw[Kam,hm];rfl
 obtain⟨y0,y1,y2,y3,y4⟩:=h.hl k _ hm
 have y1':hGet al.2.2.1 q=some y0:=y1
 rw[hz] at y1'
 cases y1'
 obtain⟨t0,rfl⟩:∃ t0,q=t0+1:=⟨q - 1,by omega⟩
 have happ:appV al.1 (hSet al.2.2.1 (t0+1) z') (t0+1,n) [x]=some ((al.1.length+1,(z'++[x]).length),al.1.set t0 false++[true],(al.1.length,z'++[x]) :: hDel (hSet al.2.2.1 (t0+1) z') (t0+1)):=by
  unfold appV
  simp only[List.isEmpty_cons,cond_false]
  rw[Kas hz,bi_some]
  have e:Nat.beq z'.length n=true:=by rw[Nat.beq_eq];omega
  rw[e]
  simp only[gd,cond_true]
  rw[Kxu (by simp only[List.length_cons,List.length_nil];omega),bi_some]
 obtain⟨g1,g2⟩:=h.hh.repl [] h.bag.r hmk (z'++[x]) z'
 have hmap:hdl (mSet v.History k (al.1.length+1,(z'++[x]).length))=mSet (hdl v.History) k (al.1.length+1):=Kbj (fun w:Vl=>w.1) h.hs k _
 have hlen:(al.1.set t0 false++[true]).length=al.1.length+1:=by simp
 refine⟨_,_,_,happ,⟨fun e he=>?_,fun e he=>?_,fun e he=>?_,fun e he=>?_⟩,h.d,h.kh,h.ks,h.nh,h.ns,h.ev,h.hs.set _ _,by rw[hmap];exact g1,fun k' w hw=>?_,?_⟩
 ·show e.1<_;rw[hlen];have:=h.bag.p e he;omega
 ·show e.1<_;rw[hlen]
  rcases List.mem_cons.1 he with rfl | he
  ·simp
  ·have:=Kbe (Kbd h.bag.r) e he;omega
 ·show e.1<_;rw[hlen];have:=h.bag.m e he;omega
 ·show e.1<_;rw[hlen];have:=h.bag.k e he;omega
 ·have hw':mGet (mSet v.History k (al.1.length+1,(z'++[x]).length)) k'=some w:=hw
  rw[Kwv] at hw'
  cases hq':k'==k with
  | true=>
   rw[hq'] at hw'
   cases hw'
   exact⟨z'++[x],Kba _ _ _,rfl,by simp,by simp;omega⟩
  | false=>
   rw[hq'] at hw'
   simp only[Bool.false_eq_true,if_false] at hw'
   obtain⟨y,u1,u2,u3,u4⟩:=h.hl k' w hw'
   have hne:w.1≠t0+1:=fun e=>by
    have:=h.hh.inj k' k (t0+1) (by rw[Kam,hw'];exact congrArg some e) hmk
    subst this;simp at hq'
   refine⟨y,?_,u2,u3,by omega⟩
   show hGet ((al.1.length,z'++[x]) :: hDel (hSet al.2.2.1 (t0+1) z') (t0+1)) w.1=some y
   rw[Kbb _ _ _ _ (Kbg h.bag.r u1),Kbh hne,Kbc _ _ _ _ _ hz,if_neg hne]
   exact u1
 ·show absH [] _ (hdl (mSet v.History k _))=mSet A.hi k (z'++[x])
  rw[hmap]
  exact g2.trans (by rw[h.hi])
end
end Go.Gk
