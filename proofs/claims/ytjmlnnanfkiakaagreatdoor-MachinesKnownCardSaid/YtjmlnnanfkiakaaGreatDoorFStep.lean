import Derived.Test.YtjmlnnanfkiakaaGreatDoorFMap
set_option linter.all false
set_option maxRecDepth 100000
namespace Go.Gk
structure Ab where
 d:Lbx
 ps:List (Str×Lcf)
 th:List (Str×Lcb)
 st:List (Str×List Lcc)
 hi:List (Str×List Lcj)
def ownT(d:Lbx)(u t:Str):Bool:=match d.Owners.find? (fun o=>o.Tag==t) with
 | some o=>o.Users.any fun x=>u==x
 | none=>false
def tagF(d:Lbx)(u:Str):List Str→Int
 | []=>0
 | t :: l=>match d.Owners.find? (fun o=>o.Tag==t) with
  | none=>8
  | some o=>bif o.Users.any (fun x=>u==x) then tagF d u l else 16
def mng(d:Lbx)(u:Str)(m:Lcb):Bool:=(m.User==u)||m.Tags.any (ownT d u)
def heldA(th:List (Str×Lcb))(p:Str):Bool:=th.any fun e=>e.2.Public==p
def lastA(d:Lbx)(z:Int)(u:Str):Int:=bif u==[] then 345686400 else(if (wi (z+d.Life))<345686400 then wi (z+d.Life) else 345686400)
def passF(p:Lcf)(z:Int):Int:=bif p.revoked||decide (z≥p.Join.Until) then 11 else bif decide (p.used≥p.Join.Left) then 12 else 0
def closeH(l:List Lcj)(z:Int):List Lcj:=match l[l.length - 1]? with
 | some x=>l.set (l.length - 1) ⟨x.Public,x.From,z⟩
 | none=>l
def badN(s:Lby):Bool:=(decide (s.Uses<1)||decide (s.Uses>1000))||(decide (s.Until≤s.At)||decide (s.Until>345686400))
def setA(A:Ab)(z:Int)(m:Lcb)(key:Bool):Ab:={ A with th:=mSet A.th m.Node m,st:=mSet A.st m.Node ((mGet A.st m.Node).getD []++[⟨z,m,false,key⟩]) }
def keyA(A:Ab)(s:Lby):Int×Ab:=match mGet A.ps s.Join with
 | some _=>(6,A)
 | none=>bif badN s then(1,A) else bif tagF A.d s.By s.Tags != 0 then(tagF A.d s.By s.Tags,A) else
  (0,{ A with ps:=mSet A.ps s.Join ⟨⟨s.Join,s.By,s.Tags,s.Until,s.Uses,s.Ready⟩,false,0⟩ })
def revA(A:Ab)(s:Lby):Int×Ab:=match mGet A.ps s.Join with
 | none=>(8,A)
 | some p=>bif !((p.Join.By:Str)==s.By) then(16,A) else bif p.revoked then(11,A) else(0,{ A with ps:=mSet A.ps s.Join ⟨p.Join,true,p.used⟩ })
def joinM(A:Ab)(s:Lby)(u:Str)(tags:List Str)(ap:Bool):Lcb:=⟨s.Node,u,s.Name,s.Public,tags,s.At,lastA A.d s.At u,ap⟩
def joinC(A:Ab)(s:Lby):Option Lcf→Ab
 | none=>{ setA A s.At (joinM A s s.By [] (!A.d.Approve)) true with hi:=mSet A.hi s.Node [⟨s.Public,s.At,345686400⟩] }
 | some p=>{ setA { A with ps:=mSet A.ps s.Join ⟨p.Join,p.revoked,wi (p.used+1)⟩ } s.At (joinM A s (bif (p.Join.Tags.length:Int)==0 then p.Join.By else s.By) p.Join.Tags (!A.d.Approve||p.Join.Ready)) true with hi:=mSet A.hi s.Node [⟨s.Public,s.At,345686400⟩] }
def joinB(A:Ab)(s:Lby)(op:Option Lcf):Int×Ab:=
 bif (mGet A.st s.Node).isSome then(6,A) else bif heldA A.th s.Public then(13,A) else bif decide ((A.th.length:Int)≥500) then(2,A) else(0,joinC A s op)
def joinA(A:Ab)(s:Lby):Int×Ab:=
 bif ((s.By:Str)==[]:Bool)==((s.Join:Str)==[]) then(3,A)
 else bif (bif (s.By:Str)==[] then(mGet A.ps s.Join).isNone else !(A.d.Users.any fun x=>s.By==x)) then(8,A)
 else match mGet A.ps s.Join with
  | none=>joinB A s none
  | some p=>bif passF p s.At != 0 then(passF p s.At,A) else joinB A s (some p)
def turnA(A:Ab)(s:Lby)(m:Lcb):Int×Ab:=
 bif (s.Kind:Int)==4 then bif m.Approved then(11,A) else(0,setA A s.At ⟨m.Node,m.User,m.Name,m.Public,m.Tags,m.Joined,m.Expires,true⟩ false)
 else bif (s.Kind:Int)==5 then bif heldA A.th s.Public then(13,A) else(0,{ setA A s.At ⟨m.Node,m.User,m.Name,s.Public,m.Tags,m.Joined,lastA A.d s.At m.User,m.Approved⟩ true with hi:=mSet A.hi s.Node (closeH ((mGet A.hi s.Node).getD []) s.At++[⟨s.Public,s.At,345686400⟩]) })
 else bif (s.Kind:Int)==6 then bif (m.Name:Str)==s.Name then(6,A) else(0,setA A s.At ⟨m.Node,m.User,s.Name,m.Public,m.Tags,m.Joined,m.Expires,m.Approved⟩ false)
 else bif (s.Kind:Int)==7 then bif (s.Tags.length:Int)==0 then(3,A) else bif tagF A.d s.By s.Tags != 0 then(tagF A.d s.By s.Tags,A) else(0,setA A s.At ⟨m.Node,[],m.Name,m.Public,s.Tags,m.Joined,345686400,m.Approved⟩ false)
 else bif (s.Kind:Int)==8 then bif decide (m.Expires≤s.At) then(11,A) else(0,setA A s.At ⟨m.Node,m.User,m.Name,m.Public,m.Tags,m.Joined,s.At,m.Approved⟩ false)
 else(0,{ A with th:=mDel A.th s.Node,st:=mSet A.st s.Node ((mGet A.st s.Node).getD []++[⟨s.At,⟨[],[],[],[],[],0,0,false⟩,true,false⟩]),hi:=mSet A.hi s.Node (closeH ((mGet A.hi s.Node).getD []) s.At) })
def stepA(A:Ab)(s:Lby):Int×Ab:=
 bif (s.Kind:Int)==3 then joinA A s else bif !(A.d.Users.any fun x=>s.By==x) then(8,A) else bif (s.Kind:Int)==1 then keyA A s else bif (s.Kind:Int)==2 then revA A s
 else match mGet A.th s.Node with
  | none=>(8,A)
  | some m=>bif (s.Kind:Int) != 4&&!mng A.d s.By m then(16,A) else turnA A s m
structure StepV(s:Lby):Prop where
 ok:StepOk s
 z:0≤s.At∧s.At≤345686400
 kd:1≤s.Kind∧s.Kind≤9
 jn:s.Kind=1→s.Join≠[]∧s.By≠[]
theorem Kch{s:Lby}(h:StepOk s):s.Tags.length≤10:=let ⟨_,_,_,h⟩:=Kyx _ h.tg;h
theorem Kci{l:List Str}(h:l.length≤10):Leu l=some l:=Kys (Kxu (by simp only[List.length_nil];omega)) rfl
structure AInv(A:Ab):Prop where
 ps:∀ k p,mGet A.ps k=some p→k≠[]∧p.Join.By≠[]∧p.Join.Tags.length≤10
 th:∀ k m,mGet A.th k=some m→m.Node=k∧(mGet A.st k).isSome=true∧(mGet A.hi k).isSome=true∧m.Tags.length≤10
 sps:SM A.ps
 sth:SM A.th
 sst:SM A.st
 shi:SM A.hi
 hst:∀ k,(mGet A.hi k).isSome=(mGet A.st k).isSome
theorem Kcj{A:Ab}{z:Int}{m:Lcb}{key:Bool}(h:AInv A)(hm:m.Tags.length≤10)(hh:(mGet A.hi m.Node).isSome=true):AInv (setA A z m key):=by
 refine⟨h.ps,fun k x hx=>?_,h.sps,h.sth.set _ _,h.sst.set _ _,h.shi,fun k=>?_⟩
 ·have hx':mGet (mSet A.th m.Node m) k=some x:=hx
  show _∧(mGet (mSet A.st m.Node _) k).isSome=true∧(mGet A.hi k).isSome=true∧_
  rw[Kwv] at hx' ⊢
  cases hk:k==m.Node with
  | true=>
   rw[hk] at hx'
   cases hx'
   have:=beq_iff_eq.1 hk
   subst this
   exact⟨rfl,rfl,hh,hm⟩
  | false=>
   rw[hk] at hx'
   exact h.th k x hx'
 show(mGet A.hi k).isSome=(mGet (mSet A.st m.Node _) k).isSome
 rw[Kwv]
 cases hk:k==m.Node with
 | true=>
  have:=beq_iff_eq.1 hk
  subst this
  rw[hh];rfl
 | false=>exact h.hst k
theorem Kck{A:Ab}(h:AInv A){k:Str}{x:List Lcj}(hk:(mGet A.st k).isSome=true):AInv { A with hi:=mSet A.hi k x }:=by
 refine⟨h.ps,fun k' m hm=>?_,h.sps,h.sth,h.sst,h.shi.set _ _,fun k'=>?_⟩
 ·obtain⟨h1,h2,h3,h4⟩:=h.th k' m hm
  refine⟨h1,h2,?_,h4⟩
  show(mGet (mSet A.hi k x) k').isSome=true
  rw[Kwv]
  split<;>first | rfl | exact h3
 show(mGet (mSet A.hi k x) k').isSome=(mGet A.st k').isSome
 rw[Kwv]
 split
 ·rename_i hq
  have:=beq_iff_eq.1 hq
  subst this
  rw[hk];rfl
 exact h.hst k'
theorem Kcl{A:Ab}(h:AInv A){k:Str}{p:Lcf}(hp:k≠[]∧p.Join.By≠[]∧p.Join.Tags.length≤10):AInv { A with ps:=mSet A.ps k p }:=by
 refine⟨fun k' x hx=>?_,h.th,h.sps.set _ _,h.sth,h.sst,h.shi,h.hst⟩
 have hx':mGet (mSet A.ps k p) k'=some x:=hx
 rw[Kwv] at hx'
 split at hx'
 ·rename_i hq
  have:=beq_iff_eq.1 hq
  subst this
  cases hx'
  exact hp
 exact h.ps k' x hx'
def pass0:Lcf:=⟨⟨[],[],[],0,0,false⟩,false,0⟩
structure BagOk(al:BagT):Prop where
 p:∀ e∈al.2.1,e.1<al.1.length
 r:∀ e∈al.2.2.1,e.1<al.1.length
 m:∀ e∈al.2.2.2.1,e.1<al.1.length
 k:∀ e∈al.2.2.2.2.1,e.1<al.1.length
theorem BagOk.up{al:BagT}(h:BagOk al){t:List Bool}(ht:al.1.length≤t.length):BagOk (t,al.2):=
 ⟨fun e he=>Nat.lt_of_lt_of_le (h.p e he) ht,fun e he=>Nat.lt_of_lt_of_le (h.r e he) ht,fun e he=>Nat.lt_of_lt_of_le (h.m e he) ht,fun e he=>Nat.lt_of_lt_of_le (h.k e he) ht⟩
structure StoryOk(t:List Bool)(m:List (Str×Tl Lcc))(c:Nat):Prop where
 sm:SM m
 ok:∀ k s,mGet m k=some s→s.2≠[]∧s.2.length≤c∧∃ q,s.1=q+2∧t[q]?=some true
 inj:∀ k k' s s',mGet m k=some s→mGet m k'=some s'→s.1=s'.1→k=k'
abbrev absS(m:List (Str×Tl Lcc)):List (Str×List Lcc):=m.map fun e=>(e.1,e.2.2)
theorem Kcm(m:List (Str×Tl Lcc))(k:Str):mGet (absS m) k=(mGet m k).map (·.2):=Kbi (fun s:Tl Lcc=>s.2) m k
theorem StoryOk.tags{t t':List Bool}{m:List (Str×Tl Lcc)}{c c':Nat}(h:StoryOk t m c)(hc:c≤c')(ht:∀ q:Nat,t[q]?=some true→t'[q]?=some true):StoryOk t' m c':=
 ⟨h.sm,fun k s hs=>let ⟨h1,h2,q,h3,h4⟩:=h.ok k s hs;⟨h1,by omega,q,h3,ht q h4⟩,h.inj⟩
theorem Kcn{t:List Bool}{m:List (Str×Tl Lcc)}{c:Nat}(h:StoryOk t m c)(hc:c<100000)(k:Str)(x:Lcc) :
  ∃ s' t',appT t ((mGet m k).getD (1,[])) [x]=some (s',t')∧StoryOk t' (mSet m k s') (c+1)∧absS (mSet m k s')=mSet (absS m) k ((mGet (absS m) k).getD []++[x])∧t.length≤t'.length:=by
 obtain⟨old,t0,e1,e2,e3,e4,e5⟩:∃ (old:List Lcc) (t0:List Bool),appT t ((mGet m k).getD (1,[])) [x]=some ((t.length+2,old++[x]),t0++[true])∧(mGet (absS m) k).getD []=old∧t0.length=t.length∧old.length≤c∧∀ k' s,k'≠k→mGet m k'=some s→∃ q,s.1=q+2∧t0[q]?=some true:=by
  cases hm:mGet m k with
  | none=>
   refine⟨[],t,?_,by rw[Kcm,hm];rfl,rfl,Nat.zero_le _,fun k' s _ hs=>let ⟨_,_,q⟩:=h.ok k' s hs;q⟩
   unfold appT
   rw[Kxu (by simp)]
   rfl
  | some s=>
   obtain⟨g1,g2,q,g3,g4⟩:=h.ok k s hm
   obtain⟨tg,l⟩:=s
   simp only at g1 g2 g3
   subst g3
   refine⟨l,t.set q false,?_,by rw[Kcm,hm];rfl,by simp,g2,fun k' s' hk hs=>?_⟩
   ·unfold appT
    simp only[Option.getD_some]
    rw[Kxu (by simp only[List.length_cons,List.length_nil];omega)]
    simp[g4]
   ·obtain⟨_,_,q',q1,q2⟩:=h.ok k' s' hs
    refine⟨q',q1,?_⟩
    rw[List.getElem?_set_ne]
    ·exact q2
    ·intro e
     subst e
     exact hk (h.inj k' k s' _ hs hm q1)
 refine⟨_,_,e1,⟨h.sm.set _ _,fun k' s hs=>?_,fun k1 k2 s1 s2 h1 h2 he=>?_⟩,?_,by simp[e3]⟩
 ·rw[Kwv] at hs
  cases hk:k'==k with
  | true=>
   rw[hk] at hs
   cases hs
   exact⟨by simp,by simp;omega,t.length,rfl,by rw[←e3];simp⟩
  | false=>
   rw[hk] at hs
   have hne:k'≠k:=by simpa using hk
   obtain⟨g1,g2,_⟩:=h.ok k' s hs
   obtain⟨q,q1,q2⟩:=e5 k' s hne hs
   exact⟨g1,by omega,q,q1,by rw[List.getElem?_append_left (List.getElem?_eq_some_iff.1 q2).1];exact q2⟩
 ·have lt:∀ k' s,k'≠k→mGet m k'=some s→s.1<t.length+2:=fun k' s hk hs=>by
   obtain⟨q,q1,q2⟩:=e5 k' s hk hs
   have:=(List.getElem?_eq_some_iff.1 q2).1
   omega
  rw[Kwv] at h1 h2
  cases hk1:k1==k with
  | true=>
   rw[hk1] at h1
   cases h1
   cases hk2:k2==k with
   | true=>rw[beq_iff_eq.1 hk1,beq_iff_eq.1 hk2]
   | false=>
    rw[hk2] at h2
    have:=lt k2 s2 (by simpa using hk2) h2
    simp only at he;omega
  | false=>
   rw[hk1] at h1
   cases hk2:k2==k with
   | true=>
    rw[hk2] at h2
    cases h2
    have:=lt k1 s1 (by simpa using hk1) h1
    simp only at he;omega
   | false=>
    rw[hk2] at h2
    exact h.inj k1 k2 s1 s2 h1 h2 he
 ·rw[e2]
  exact Kbj (fun s:Tl Lcc=>s.2) h.sm k (t.length+2,old++[x])
structure RN(n:Lcd)(al:BagT)(A:Ab)(c:Nat):Prop where
 bag:BagOk al
 d:n.d=A.d
 us:∀ u,(mGet n.users u).getD false=A.d.Users.any fun x=>u==x
 ph:HOk al.2.1 n.passes
 ps:absH pass0 al.2.1 n.passes=A.ps
 th:n.there=A.th
 so:StoryOk al.1 n.story c
 st:absS n.story=A.st
theorem RN.up{n:Lcd}{al:BagT}{A:Ab}{c c':Nat}(h:RN n al A c)(hc:c≤c'):RN n al A c':=⟨h.bag,h.d,h.us,h.ph,h.ps,h.th,h.so.tags hc fun _ h=>h,h.st⟩
theorem RN.hi{n:Lcd}{al:BagT}{A:Ab}{c:Nat}(h:RN n al A c)(x:List (Str×List Lcj)):RN n al { A with hi:=x } c:=⟨h.bag,h.d,h.us,h.ph,h.ps,h.th,h.so,h.st⟩
section
variable{n:Lcd}{al:BagT}{A:Ab}{c:Nat}{s:Lby}
theorem Kco(h:RN n al A c)(hc:c<100000)(z:Int)(m:Lcb)(key:Bool):∃ n' al',Lew n z m key al=some (n',al')∧RN n' al' (setA A z m key) (c+1):=by
 obtain⟨s',t',e1,e2,e3,e4⟩:=Kcn h.so hc m.Node ⟨z,m,false,key⟩
 refine⟨⟨n.d,n.users,n.passes,mSet n.there m.Node m,mSet n.story m.Node s'⟩,(t',al.2),by unfold Lew;rw[e1];rfl,⟨h.bag.up e4,h.d,h.us,h.ph,h.ps,?_,e2,?_⟩⟩
 ·show mSet n.there m.Node m=mSet A.th m.Node m
  rw[h.th]
 show absS (mSet n.story m.Node s')=mSet A.st m.Node ((mGet A.st m.Node).getD []++[⟨z,m,false,key⟩])
 rw[e3,h.st]
theorem Kcp(h:RN n al A c)(p:Str):Let n p=some (heldA A.th p):=by
 unfold Let
 rw[Kyf (fun e:Str×Lcb=>e.2.Public==p) true () n.there (fun x _=>by cases (x.2.Public==p)<;>rfl),h.th]
 unfold heldA
 cases (A.th.any fun e=>e.2.Public==p)<;>rfl
theorem Kcq(h:RN n al A c)(z:Int)(u:Str):Lev n z u=some (lastA A.d z u):=by
 unfold Lev lastA
 rw[h.d]
 cases (u==[])<;>rfl
theorem Kcr(h:RN n al A c)(u:Str)(l:List Str):Lfb n u l=some (tagF A.d u l):=by
 have key:∀ (l:List Str) (i:Nat),rangeM (σ:=Unit) (ρ:=Int) (fun i1 x3 s2=>bi (Lfa A.d u x3) fun y12=>bif !y12.2 then(bi (some 8) fun v=>some (.out v)) else(bif !y12.1 then(bi (some 16) fun v=>some (.out v)) else(some (.go ())))) i l ()=some (match tagF A.d u l with | 0=>.go () | e=>.out e):=by
  intro l
  induction l with
  | nil=>intro i;rfl
  | cons t l ih=>
   intro i
   simp only[rangeM,tagF]
   rw[Kxj]
   cases A.d.Owners.find? (fun o=>o.Tag==t) with
   | none=>rfl
   | some o=>
    cases hb:o.Users.any (fun x=>u==x) with
    | false=>simp only[hb];rfl
    | true=>simp only[hb];exact ih (i+1)
 unfold Lfb
 rw[h.d,key l 0,bi_some]
 cases tagF A.d u l with
 | ofNat k=>cases k<;>rfl
 | negSucc k=>rfl
theorem Kcs(a b:Str):(a==b)=(b==a):=by
 rw[Bool.eq_iff_iff,beq_iff_eq,beq_iff_eq];exact eq_comm
theorem Kct(h:RN n al A c)(u:Str)(m:Lcb):Lfh n u m=some (mng A.d u m):=by
 have hx:Lfg m.Tags n u=some (m.Tags.any (ownT A.d u)):=by
  unfold Lfg Lff
  rw[Kzf (ownT A.d u) m.Tags (fun j x _=>by
   unfold Lfe
   rw[Kxj,h.d]
   unfold ownT
   cases A.d.Owners.find? (fun o=>o.Tag==x) with
   | none=>rfl
   | some o=>
    show(bif o.Users.any (fun y=>u==y) then some (LS.out (j:Int)) else some (LS.go ()))=some (if o.Users.any (fun y=>u==y)=true then LS.out (j:Int) else LS.go ())
    by_cases hq:o.Users.any (fun y=>u==y)=true
    ·rw[if_pos hq,hq];rfl
    rw[if_neg hq,Bool.eq_false_iff.2 hq];rfl),bi_some,Kzc]
 unfold Lfh mng
 rw[Kcs u m.User]
 cases (m.User==u) with
 | true=>rfl
 | false=>exact Kys hx rfl
theorem Kcu(hv:StepV s):(bi (Lea s.Uses 1 1000) fun y3=>bi (bif y3 then(some true) else(bi (Lea s.Until (wi (s.At+1)) 345686400) fun y9=>some y9)) fun q5=>some q5)=some (badN s):=by
 unfold Lea badN
 rw[Kxl (by have:=hv.z;omega) (by have:=hv.z;omega)]
 have e:(decide (s.Until<s.At+1))=decide (s.Until≤s.At):=by rw[decide_eq_decide];omega
 rw[e]
 simp only[bi_some]
 cases (decide (s.Uses<1)||decide (s.Uses>1000))<;>rfl
theorem Kcv(h:RN n al A c)(hv:StepV s):∃ n' al',Lfc n s al=some ((keyA A s).1,n',al')∧RN n' al' (keyA A s).2 c:=by
 unfold Lfc keyA
 have hat:=h.ph.at pass0 s.Join
 rw[h.ps] at hat
 rcases hat with⟨e1,e2⟩ | ⟨a,x,e1,e2,e3,e4,e5⟩
 ·rw[e1,e2]
  simp only[beq_self_eq_true,Bool.not_true,cond_false]
  have hb:=Kcu hv
  obtain⟨b3,hb3⟩:∃ b3,Lea s.Uses 1 1000=some b3:=⟨_,rfl⟩
  rw[hb3,bi_some] at hb
  rw[hb3,bi_some]
  obtain⟨q,hq,hb⟩:=Kfw hb
  rw[hq,bi_some,Option.some.inj hb]
  cases badN s with
  | true=>exact⟨n,al,rfl,h⟩
  | false=>
   simp only[cond_false]
   rw[Kcr h,bi_some]
   cases tagF A.d s.By s.Tags != 0 with
   | true=>exact⟨n,al,rfl,h⟩
   | false=>
    simp only[cond_false]
    rw[Kci (Kch hv.ok),bi_some]
    have hk:mGet n.passes s.Join=none:=by
     have:=Kbm pass0 al.2.1 n.passes s.Join
     rw[h.ps,e1] at this
     cases hm:mGet n.passes s.Join with
     | none=>rfl
     | some v=>rw[hm] at this;cases this
    obtain⟨g1,g2⟩:=h.ph.new pass0 h.bag.p s.Join ⟨⟨s.Join,s.By,s.Tags,s.Until,s.Uses,s.Ready⟩,false,0⟩ hk
    refine⟨_,_,rfl,⟨⟨fun e he=>?_,fun e he=>?_,fun e he=>?_,fun e he=>?_⟩,h.d,h.us,g1,?_,h.th,h.so.tags (Nat.le_refl _) fun q hq=>by rw[List.getElem?_append_left (List.getElem?_eq_some_iff.1 hq).1];exact hq,h.st⟩⟩
    ·rcases List.mem_cons.1 he with rfl | he
     ·simp
     have:=h.bag.p e he;simp;omega
    ·have:=h.bag.r e he;simp;omega
    ·have:=h.bag.m e he;simp;omega
    ·have:=h.bag.k e he;simp;omega
    show absH pass0 _ _=mSet A.ps s.Join _
    rw[←h.ps];exact g2
 rw[e1,e3]
 have:(a==0)=false:=by simp;omega
 rw[this]
 exact⟨n,al,rfl,h⟩
theorem RN.passes(h:RN n al A c){k:Str}{a:Nat}(hm:mGet n.passes k=some a)(x:Lcf):RN n (al.1,hSet al.2.1 a x,al.2.2) { A with ps:=mSet A.ps k x } c:=by
 obtain⟨g1,g2⟩:=h.ph.set pass0 hm x
 refine⟨⟨Kbd h.bag.p,h.bag.r,h.bag.m,h.bag.k⟩,h.d,h.us,g1,?_,h.th,h.so,h.st⟩
 show absH pass0 _ _=mSet A.ps k x
 rw[←h.ps];exact g2
theorem Kcw{a:Nat}(h:0<a):Nat.blt 0 a=true:=nblt.2 h
theorem Kcx(h:RN n al A c):∃ al',Lfd n s al=some ((revA A s).1,al')∧RN n al' (revA A s).2 c:=by
 unfold Lfd revA
 have hat:=h.ph.at pass0 s.Join
 rw[h.ps] at hat
 rcases hat with⟨e1,e2⟩ | ⟨a,x,e1,e2,e3,e4,e5⟩
 ·rw[e1,e2]
  exact⟨al,rfl,h⟩
 rw[e1,e3]
 have:(a==0)=false:=by simp;omega
 rw[this,Kcw e5,e4]
 simp only[cond_false,gd,cond_true,bi_some]
 cases ((x.Join.By:Str)==s.By) with
 | false=>exact⟨al,rfl,h⟩
 | true=>
  simp only[Bool.not_true,cond_false]
  cases x.revoked with
  | true=>exact⟨al,rfl,h⟩
  | false=>exact⟨_,rfl,h.passes e2 _⟩
end
end Go.Gk
