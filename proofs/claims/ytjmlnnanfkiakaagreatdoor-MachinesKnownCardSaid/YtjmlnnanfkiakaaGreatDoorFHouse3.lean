import Derived.Test.YtjmlnnanfkiakaaGreatDoorFHouse2
set_option linter.all false
set_option maxRecDepth 100000
namespace Go.Gk
theorem Kav{X:Type}(l:List (Nat×X))(a:Nat)(x y:X):hSet (hSet l a x) a y=hSet l a y:=by
 cases a with
 | zero=>rfl
 | succ t=>
  unfold hSet
  simp only
  cases hi:l.findIdx? (fun e=>t==e.1) with
  | none=>simp only;rw[hi]
  | some i=>
   obtain⟨h1,h2,h3⟩:=List.findIdx?_eq_some_iff_getElem.1 hi
   have:(l.set i (t,x)).findIdx? (fun e=>t==e.1)=some i:=by
    rw[List.findIdx?_eq_some_iff_getElem]
    refine⟨by simpa using h1,by simp,fun j hj=>?_⟩
    rw[List.getElem_set_ne (by omega)]
    exact h3 j hj
   simp only
   rw[this]
   simp
section
variable{v:Lcg}{al:BagT}{A:Ab}{c:Nat}{s:Lby}
theorem RH.setm(h:RH v al A c){a:Nat}{k:Str}(hm:mGet v.nodes k=some a)(x:Lcb)(hx:x.Node=k)(hs:(mGet A.st k).isSome=true)(z:Int)(key:Bool):RH v (al.1,al.2.1,al.2.2.1,hSet al.2.2.2.1 a x,al.2.2.2.2) (setA A z x key) c:=by
 have h1:=(h.mach hm x).stc (st:=mSet A.st x.Node ((mGet A.st x.Node).getD []++[⟨z,x,false,key⟩])) (fun k'=>by
  rw[Kwv]
  cases hq:k'==x.Node with
  | true=>
   have:=beq_iff_eq.1 hq
   subst this
   show true=(mGet A.st _).isSome
   rw[hx,hs]
  | false=>rfl)
 unfold setA
 subst hx
 exact h1
theorem Kaw(h:RH v al A c)(hI:AInv A)(hv:StepV s)(hc:c<100000)(hk:s.Kind≠4){a:Nat}{m:Lcb}(e1:mGet A.th s.Node=some m)(e2:mGet v.nodes s.Node=some a)(e4:hGet al.2.2.2.1 a=some m)(e5:0<a) :
  ∃ v' al',Lgd v s a al=some ((turnA A s m).1,v',al')∧RH v' al' (turnA A s m).2 (c+1):=by
 obtain⟨n1,n2,n3,n4⟩:=hI.th _ _ e1
 obtain⟨q,n,z,x,r1,r2,r3,r4,r5,r6,r7,r8,r9,r10⟩:=h.hat hc n3
 have g2:∀ y z:Lcb,hGet (hSet (hSet al.2.2.2.1 a y) a z) a=some z:=fun y z=>by rw[Kav,Kas e4]
 have hset:=fun (x:Lcb) (hx:x.Node=s.Node) (key:Bool)=>h.setm e2 x hx n2 s.At key
 have k4:((s.Kind:Int)==4)=false:=by simpa using hk
 unfold Lgd turnA
 rw[k4]
 simp only[cond_false]
 cases (s.Kind:Int)==5 with
 | true=>
  simp only[cond_true]
  rw[Kap h,bi_some]
  cases heldA A.th s.Public with
  | true=>exact⟨v,al,rfl,h.up (by omega)⟩
  | false=>
   simp only[cond_false]
   rw[Kcw e5,e4]
   simp only[gd,cond_true,bi_some,Kas e4,g2,Kav]
   have hfin:(bif !((m.User:Str)==[]) then some ((al.1,al.2.1,al.2.2.1,hSet al.2.2.2.1 a (⟨m.Node,m.User,m.Name,s.Public,m.Tags,m.Joined,(if 345686400<(wi (s.At+v.d.Life)) then 345686400 else wi (s.At+v.d.Life)),m.Approved⟩:Lcb),al.2.2.2.2.1,al.2.2.2.2.2):BagT) else some (al.1,al.2.1,al.2.2.1,hSet al.2.2.2.1 a (⟨m.Node,m.User,m.Name,s.Public,m.Tags,m.Joined,345686400,m.Approved⟩:Lcb),al.2.2.2.2.1,al.2.2.2.2.2)) =
     some (al.1,al.2.1,al.2.2.1,hSet al.2.2.2.1 a ⟨m.Node,m.User,m.Name,s.Public,m.Tags,m.Joined,lastA A.d s.At m.User,m.Approved⟩,al.2.2.2.2):=by
    rw[h.d]
    cases hu:((m.User:Str)==[]) with
    | true=>unfold lastA;rw[hu];rfl
    | false=>rw[Kar A.d s.At (by simpa using hu)];rfl
   rw[hfin,bi_some,r1]
   simp only[Option.getD_some]
   rw[Kcw r2,r8,r3]
   simp only[cond_true,bi_some]
   rw[r9,bi_some,r10]
   have h1:=hset ⟨m.Node,m.User,m.Name,s.Public,m.Tags,m.Joined,lastA A.d s.At m.User,m.Approved⟩ n1 true
   have hcl:(closeH z s.At).length=z.length:=by
    obtain⟨x',_,e'⟩:=Kau r5 s.At
    rw[e',List.length_set]
   obtain⟨w,t,l,w1,w2⟩:=h1.rowa hc r1 r2 r3 hcl r4 ⟨s.Public,s.At,345686400⟩
   rw[w1,bi_some]
   exact⟨_,_,rfl,by rw[r7];exact w2⟩
 | false=>
  simp only[cond_false]
  cases (s.Kind:Int)==6 with
  | true=>
   simp only[cond_true]
   rw[Kcw e5,e4]
   simp only[gd,cond_true,bi_some]
   cases (m.Name:Str)==s.Name with
   | true=>exact⟨v,al,rfl,h.up (by omega)⟩
   | false=>exact⟨_,_,rfl,(hset ⟨m.Node,m.User,s.Name,m.Public,m.Tags,m.Joined,m.Expires,m.Approved⟩ n1 false).up (by omega)⟩
  | false=>
   simp only[cond_false]
   cases (s.Kind:Int)==7 with
   | true=>
    simp only[cond_true]
    cases (s.Tags.length:Int)==0 with
    | true=>exact⟨v,al,rfl,h.up (by omega)⟩
    | false=>
     simp only[cond_false]
     rw[Kan,h.d,bi_some]
     cases tagF A.d s.By s.Tags != 0 with
     | true=>exact⟨v,al,rfl,h.up (by omega)⟩
     | false=>
      simp only[cond_false]
      rw[Kci (Kch hv.ok),bi_some,Kcw e5,e4]
      simp only[gd,cond_true,bi_some,Kas e4,g2,Kav]
      exact⟨⟨A.d,v.keys,v.nodes,v.ever,v.History⟩,_,rfl,by
       have:=(hset ⟨m.Node,[],m.Name,m.Public,s.Tags,m.Joined,345686400,m.Approved⟩ n1 false).up (c':=c+1) (by omega)
       rw[←h.d];exact this⟩
   | false=>
    simp only[cond_false]
    cases (s.Kind:Int)==8 with
    | true=>
     simp only[cond_true]
     rw[Kcw e5,e4]
     simp only[gd,cond_true,bi_some]
     cases decide (m.Expires≤s.At) with
     | true=>exact⟨v,al,rfl,h.up (by omega)⟩
     | false=>exact⟨_,_,rfl,(hset ⟨m.Node,m.User,m.Name,m.Public,m.Tags,m.Joined,s.At,m.Approved⟩ n1 false).up (by omega)⟩
    | false=>
     simp only[cond_false]
     rw[r1]
     simp only[Option.getD_some]
     rw[Kcw r2,r8,r3]
     simp only[gd,cond_true,bi_some]
     rw[r9,bi_some,r10]
     have hcl:(closeH z s.At).length=z.length:=by
      obtain⟨x',_,e'⟩:=Kau r5 s.At
      rw[e',List.length_set]
     have h1:=h.rowc r1 r3 hcl
     obtain⟨d1,d2⟩:=h.nh.del mac0 s.Node
     refine⟨⟨v.d,v.keys,mDel v.nodes s.Node,v.ever,v.History⟩,_,rfl,?_⟩
     have h2:RH ⟨v.d,v.keys,mDel v.nodes s.Node,v.ever,v.History⟩ (al.1,al.2.1,hSet al.2.2.1 q (closeH z s.At),al.2.2.2) { A with th:=mDel A.th s.Node,st:=mSet A.st s.Node ((mGet A.st s.Node).getD []++[⟨s.At,⟨[],[],[],[],[],0,0,false⟩,true,false⟩]),hi:=mSet A.hi s.Node (closeH z s.At) } c:=by
      refine⟨h1.bag,h.d,h1.kh,h1.ks,d1,by rw[←h.ns];exact d2,fun k=>?_,h1.hs,h1.hh,h1.hl,h1.hi⟩
      show(mGet v.ever k).getD false=(mGet (mSet A.st s.Node _) k).isSome
      rw[Kwv,h.ev k]
      cases hq:k==s.Node with
      | true=>
       have:=beq_iff_eq.1 hq
       subst this
       rw[n2];rfl
      | false=>rfl
     rw[r7]
     exact h2.up (by omega)
theorem Kax(h:RH v al A c)(hI:AInv A)(hv:StepV s)(hc:c<100000):∃ v' al',Lge v s al=some ((stepA A s).1,v',al')∧RH v' al' (stepA A s).2 (c+1):=by
 unfold Lge
 have hq:(bif (s.Kind:Int)==1 then(some ((s.Kind:Int)==1)) else(some ((s.Kind:Int)==2)))=some ((s.Kind:Int)==1||(s.Kind:Int)==2):=by
  cases (s.Kind:Int)==1<;>rfl
 rw[hq,bi_some]
 cases hk:((s.Kind:Int)==1||(s.Kind:Int)==2) with
 | true=>
  obtain⟨v',al',w1,w2⟩:=Kaq h hv (by simpa using hk)
  exact⟨v',al',by simp only[cond_true];rw[w1];rfl,w2.up (by omega)⟩
 | false=>
  rw[Bool.or_eq_false_iff] at hk
  unfold stepA
  rw[hk.1,hk.2]
  simp only[cond_false]
  cases (s.Kind:Int)==3 with
  | true=>
   obtain⟨v',al',w1,w2⟩:=Kat (s:=s) h hI
   exact⟨v',al',by simp only[cond_true];rw[w1];rfl,w2⟩
  | false=>
   simp only[cond_false]
   rw[Kwy,h.d,bi_some]
   cases (A.d.Users.any fun x=>s.By==x) with
   | false=>exact⟨v,al,rfl,h.up (by omega)⟩
   | true=>
    simp only[Bool.not_true,cond_false]
    rcases h.nat s.Node with⟨e1,e2,e3⟩ | ⟨a,m,e1,e2,e3,e4,e5,e6⟩
    ·rw[e1,e2]
     exact⟨v,al,rfl,h.up (by omega)⟩
    rw[e1,e3,e6]
    simp only[cond_false]
    rw[Kcw e5,e4]
    simp only[gd,cond_true,bi_some]
    obtain⟨n1,n2,n3,n4⟩:=hI.th _ _ e1
    cases h4:(s.Kind:Int)==4 with
    | true=>
     have hne:((s.Kind:Int) != 4)=false:=by rw[bne,h4];rfl
     rw[hne]
     simp only[cond_true,Bool.false_and,cond_false]
     unfold turnA
     rw[h4]
     simp only[cond_true]
     cases m.Approved with
     | true=>exact⟨v,al,rfl,h.up (by omega)⟩
     | false=>exact⟨v,_,rfl,(h.setm e2 ⟨m.Node,m.User,m.Name,m.Public,m.Tags,m.Joined,m.Expires,true⟩ n1 n2 s.At false).up (by omega)⟩
    | false=>
     have hne:((s.Kind:Int) != 4)=true:=by rw[bne,h4];rfl
     rw[hne,Kao,bi_some]
     simp only[cond_false,Bool.true_and]
     cases mng A.d s.By m with
     | false=>exact⟨v,al,rfl,h.up (by omega)⟩
     | true=>
      simp only[Bool.not_true,cond_false]
      obtain⟨v',al',w1,w2⟩:=Kaw h hI hv hc (by simpa using h4) e1 e2 e4 e5
      exact⟨v',al',by rw[w1];rfl,w2⟩
theorem Kay(hI:AInv A)(hv:StepV s):AInv (stepA A s).2:=by
 unfold stepA
 cases h3:(s.Kind:Int)==3 with
 | true=>
  simp only[cond_true]
  unfold joinA
  cases hbj:((s.By:Str)==[]:Bool)==((s.Join:Str)==[]) with
  | true=>exact hI
  | false=>
   simp only[cond_false]
   cases (bif (s.By:Str)==[] then(mGet A.ps s.Join).isNone else !(A.d.Users.any fun x=>s.By==x)) with
   | true=>exact hI
   | false=>
    simp only[cond_false]
    have fin:∀ {B:Ab} {m:Lcb} {x:List Lcj},AInv B→B.hi=A.hi→m.Node=s.Node→m.Tags.length≤10→AInv { setA B s.At m true with hi:=mSet A.hi s.Node x }:=fun {B m x} hB hhi hn hl=>by
     refine⟨hB.ps,fun k y hy=>?_,hB.sps,hB.sth.set _ _,hB.sst.set _ _,hI.shi.set _ _,fun k=>?_⟩
     ·have hy':mGet (mSet B.th m.Node m) k=some y:=hy
      show _∧(mGet (mSet B.st m.Node _) k).isSome=true∧(mGet (mSet A.hi s.Node x) k).isSome=true∧_
      rw[Kwv] at hy' ⊢
      rw[Kwv,←hn]
      cases hk:k==m.Node with
      | true=>
       rw[hk] at hy'
       cases hy'
       exact⟨(beq_iff_eq.1 hk).symm,rfl,rfl,hl⟩
      | false=>
       rw[hk] at hy'
       obtain⟨u1,u2,u3,u4⟩:=hB.th k y hy'
       rw[hhi] at u3
       exact⟨u1,u2,u3,u4⟩
     show(mGet (mSet A.hi s.Node x) k).isSome=(mGet (mSet B.st m.Node _) k).isSome
     rw[Kwv,Kwv,hn]
     cases k==s.Node with
     | true=>rfl
     | false=>
      have:=hB.hst k
      rw[hhi] at this
      exact this
    cases hp:mGet A.ps s.Join with
    | none=>
     simp only
     unfold joinB
     cases (mGet A.st s.Node).isSome with
     | true=>exact hI
     | false=>
      cases heldA A.th s.Public with
      | true=>exact hI
      | false=>
       cases decide ((A.th.length:Int)≥500) with
       | true=>exact hI
       | false=>exact fin hI rfl rfl (by simp[joinM])
    | some p=>
     simp only
     obtain⟨u1,u2,u3⟩:=hI.ps _ _ hp
     cases passF p s.At != 0 with
     | true=>exact hI
     | false=>
      unfold joinB
      cases (mGet A.st s.Node).isSome with
      | true=>exact hI
      | false=>
       cases heldA A.th s.Public with
       | true=>exact hI
       | false=>
        cases decide ((A.th.length:Int)≥500) with
        | true=>exact hI
        | false=>exact fin (B:={ A with ps:=mSet A.ps s.Join ⟨p.Join,p.revoked,wi (p.used+1)⟩ }) (Kcl hI ⟨u1,u2,u3⟩) rfl rfl u3
 | false=>
  simp only[cond_false]
  cases (A.d.Users.any fun x=>s.By==x) with
  | false=>exact hI
  | true=>
   simp only[Bool.not_true,cond_false]
   cases h1:(s.Kind:Int)==1 with
   | true=>
    simp only[cond_true]
    unfold keyA
    cases hp:mGet A.ps s.Join with
    | some p=>exact hI
    | none=>
     cases badN s with
     | true=>exact hI
     | false=>
      cases tagF A.d s.By s.Tags != 0 with
      | true=>exact hI
      | false=>
       obtain⟨u1,u2⟩:=hv.jn (by simpa using h1)
       exact Kcl hI ⟨u1,u2,Kch hv.ok⟩
   | false=>
    simp only[cond_false]
    cases (s.Kind:Int)==2 with
    | true=>
     simp only[cond_true]
     unfold revA
     cases hp:mGet A.ps s.Join with
     | none=>exact hI
     | some p=>
      obtain⟨u1,u2,u3⟩:=hI.ps _ _ hp
      simp only
      cases ((p.Join.By:Str)==s.By) with
      | false=>exact hI
      | true=>
       simp only[Bool.not_true,cond_false]
       cases p.revoked with
       | true=>exact hI
       | false=>exact Kcl (p:=⟨p.Join,true,p.used⟩) hI ⟨u1,u2,u3⟩
    | false=>
     simp only[cond_false]
     cases hm:mGet A.th s.Node with
     | none=>exact hI
     | some m=>
      simp only
      obtain⟨n1,n2,n3,n4⟩:=hI.th _ _ hm
      cases ((s.Kind:Int) != 4&&!mng A.d s.By m) with
      | true=>exact hI
      | false=>
       simp only[cond_false]
       have fin:∀ (x:Lcb) (key:Bool),x.Node=s.Node→x.Tags.length≤10→AInv (setA A s.At x key):=fun x key hx hl=>Kcj hI hl (by rw[hx];exact n3)
       unfold turnA
       cases (s.Kind:Int)==4 with
       | true=>
        cases m.Approved with
        | true=>exact hI
        | false=>exact fin _ _ n1 n4
       | false=>
        cases (s.Kind:Int)==5 with
        | true=>
         cases heldA A.th s.Public with
         | true=>exact hI
         | false=>
          refine Kck (A:=setA A s.At ⟨m.Node,m.User,m.Name,s.Public,m.Tags,m.Joined,lastA A.d s.At m.User,m.Approved⟩ true) (fin _ _ n1 n4) ?_
          show(mGet (mSet A.st m.Node _) s.Node).isSome=true
          rw[Kwv,n1]
          simp
        | false=>
         cases (s.Kind:Int)==6 with
         | true=>
          cases (m.Name:Str)==s.Name with
          | true=>exact hI
          | false=>exact fin _ _ n1 n4
         | false=>
          cases (s.Kind:Int)==7 with
          | true=>
           cases (s.Tags.length:Int)==0 with
           | true=>exact hI
           | false=>
            cases tagF A.d s.By s.Tags != 0 with
            | true=>exact hI
            | false=>exact fin _ _ n1 (Kch hv.ok)
          | false=>
           cases (s.Kind:Int)==8 with
           | true=>
            cases decide (m.Expires≤s.At) with
            | true=>exact hI
            | false=>exact fin _ _ n1 n4
           | false=>
            refine⟨hI.ps,fun k y hy=>?_,hI.sps,hI.sth.del _,hI.sst.set _ _,hI.shi.set _ _,fun k=>?_⟩
            ·have hy':mGet (mDel A.th s.Node) k=some y:=hy
             show _∧(mGet (mSet A.st s.Node _) k).isSome=true∧(mGet (mSet A.hi s.Node _) k).isSome=true∧_
             rw[Kbk hI.sth] at hy'
             rw[Kwv,Kwv]
             cases hk:k==s.Node with
             | true=>rw[hk] at hy';cases hy'
             | false=>rw[hk] at hy';exact hI.th k y hy'
            show(mGet (mSet A.hi s.Node _) k).isSome=(mGet (mSet A.st s.Node _) k).isSome
            rw[Kwv,Kwv]
            cases k==s.Node with
            | true=>rfl
            | false=>exact hI.hst k
theorem Kaz(A:Ab)(s:Lby):(stepA A s).2.d=A.d:=by
 unfold stepA joinA keyA revA turnA joinB joinC
 repeat' split
 all_goals first | rfl | (simp only[cond];repeat' split)
 all_goals first | rfl | skip
end
end Go.Gk
