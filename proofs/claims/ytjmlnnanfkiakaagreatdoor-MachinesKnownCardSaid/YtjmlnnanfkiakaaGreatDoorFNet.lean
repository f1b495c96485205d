import Derived.Test.YtjmlnnanfkiakaaGreatDoorFStep
set_option linter.all false
set_option maxRecDepth 100000
namespace Go.Gk
section
variable{n:Lcd}{al:BagT}{A:Ab}{c:Nat}{s:Lby}
theorem Kbp(z:Int)(al:BagT):Les 0 z al=some 0:=rfl
theorem Kbq{a:Nat}{x:Lcf}(h:hGet al.2.1 a=some x)(ha:0<a)(z:Int):Les a z al=some (passF x z):=by
 unfold Les passF
 have:(a==0)=false:=by simp;omega
 rw[this,Kcw ha,h]
 simp only[cond_false,gd,cond_true,bi_some]
 cases x.revoked with
 | true=>rfl
 | false=>
  simp only[cond_false,bi_some,Bool.false_or]
  cases decide (z≥x.Join.Until) with
  | true=>rfl
  | false=>cases decide (x.used≥x.Join.Left)<;>rfl
theorem Kbr(h:RN n al A c)(k:Str):isNilT ((mGet n.story k).getD (1,[]))=some (!(mGet A.st k).isSome):=by
 rw[←h.st,Kcm]
 cases hm:mGet n.story k with
 | none=>rfl
 | some x=>
  obtain⟨g1,_⟩:=h.so.ok k x hm
  obtain⟨t,l⟩:=x
  cases l with
  | nil=>exact absurd rfl g1
  | cons y l=>rfl
theorem Kbs(h:RN n al A c)(hc:c<100000)(op:Option Lcf){al1:BagT}{m:Lcb}{A1:Ab}(h1:RN n al1 A1 c)(hd:A1.d=A.d)(z:Int)(e:A1.hi=A.hi)(x:List Lcj)(hn:m.Node=s.Node) :
  ∃ n' al',(bi (Lev n z m.User) fun y67=>bi (Lew n z (⟨m.Node,m.User,m.Name,m.Public,m.Tags,m.Joined,y67,m.Approved⟩:Lcb) true al1) fun y69=>some ((0:Int),y69.1,y69.2))=some (0,n',al')∧
   RN n' al' { setA A1 z ⟨m.Node,m.User,m.Name,m.Public,m.Tags,m.Joined,lastA A.d z m.User,m.Approved⟩ true with hi:=mSet A.hi s.Node x } (c+1):=by
 rw[Kcq h,bi_some]
 obtain⟨n',al',e1,e2⟩:=Kco h1 hc z ⟨m.Node,m.User,m.Name,m.Public,m.Tags,m.Joined,lastA A.d z m.User,m.Approved⟩ true
 exact⟨n',al',by rw[e1];rfl,e2.hi _⟩
theorem Kbt(h:RN n al A c)(hI:AInv A)(hc:c<100000):∃ n' al',Lex n s al=some ((joinA A s).1,n',al')∧RN n' al' (joinA A s).2 (c+1):=by
 unfold Lex joinA
 cases ((s.By:Str)==[]:Bool)==((s.Join:Str)==[]) with
 | true=>exact⟨n,al,rfl,h.up (by omega)⟩
 | false=>
  simp only[cond_false]
  have hat:=h.ph.at pass0 s.Join
  rw[h.ps] at hat
  have hu:=h.us s.By
  have hq:(bif !((s.By:Str)==[]) then(bif !((mGet n.users s.By).getD false) then(some true) else(bif (s.By:Str)==[] then(some (((mGet n.passes s.Join).getD 0)==0)) else(some false))) else(bif (s.By:Str)==[] then(some (((mGet n.passes s.Join).getD 0)==0)) else(some false))) =
    some (bif (s.By:Str)==[] then(mGet A.ps s.Join).isNone else !(A.d.Users.any fun x=>s.By==x)):=by
   rw[hu]
   have hz:(((mGet n.passes s.Join).getD 0)==0)=(mGet A.ps s.Join).isNone:=by
    rcases hat with⟨e1,e2⟩ | ⟨a,x,e1,e2,e3,e4,e5⟩
    ·rw[e1,e2];rfl
    ·rw[e1,e3];simp;omega
   rw[hz]
   cases ((s.By:Str)==[]) with
   | true=>rfl
   | false=>cases (A.d.Users.any fun x=>s.By==x)<;>rfl
  rw[hq,bi_some]
  cases (bif (s.By:Str)==[] then(mGet A.ps s.Join).isNone else !(A.d.Users.any fun x=>s.By==x)) with
  | true=>exact⟨n,al,rfl,h.up (by omega)⟩
  | false=>
   simp only[cond_false]
   have body:∀ (op:Option Lcf) (rest:Option (BagT×Lcb)),(∃ al1 m A1,rest=some (al1,m)∧RN n al1 A1 c∧A1.d=A.d∧A1.hi=A.hi∧m.Node=s.Node∧joinC A s op={ setA A1 s.At ⟨m.Node,m.User,m.Name,m.Public,m.Tags,m.Joined,lastA A.d s.At m.User,m.Approved⟩ true with hi:=mSet A.hi s.Node [⟨s.Public,s.At,345686400⟩] })→
     ∃ n' al',(bi (isNilT ((mGet n.story s.Node).getD (1,[]))) fun b19=>bif !b19 then(some ((6:Int),n,al)) else(bi (Let n s.Public) fun y23=>bif y23 then(some (13,n,al)) else(bif decide (((n.there.length:Int):Int)≥500) then(some (2,n,al)) else(bi rest fun q29=>bi (Lev n s.At q29.2.User) fun y67=>bi (Lew n s.At (⟨q29.2.Node,q29.2.User,q29.2.Name,q29.2.Public,q29.2.Tags,q29.2.Joined,y67,q29.2.Approved⟩:Lcb) true q29.1) fun y69=>some (0,y69.1,y69.2)))))=some ((joinB A s op).1,n',al')∧RN n' al' (joinB A s op).2 (c+1):=by
    rintro op rest ⟨al1,m,A1,rfl,h1,h2,h3,h4,h5⟩
    unfold joinB
    rw[Kbr h,bi_some,Bool.not_not]
    cases (mGet A.st s.Node).isSome with
    | true=>exact⟨n,al,rfl,h.up (by omega)⟩
    | false=>
     simp only[cond_false]
     rw[Kcp h,bi_some]
     cases heldA A.th s.Public with
     | true=>exact⟨n,al,rfl,h.up (by omega)⟩
     | false=>
      simp only[cond_false]
      rw[h.th]
      cases decide ((A.th.length:Int)≥500) with
      | true=>exact⟨n,al,rfl,h.up (by omega)⟩
      | false=>
       simp only[cond_false,bi_some]
       obtain⟨n',al',e1,e2⟩:=Kbs h hc op h1 h2 s.At h3 [⟨s.Public,s.At,345686400⟩] h4
       exact⟨n',al',e1,by rw[h5];exact e2⟩
   rcases hat with⟨e1,e2⟩ | ⟨a,x,e1,e2,e3,e4,e5⟩
   ·rw[e1,e2,Kbp,bi_some]
    simp only[bne_self_eq_false,cond_false]
    refine body none _ ⟨al,⟨s.Node,s.By,s.Name,s.Public,[],s.At,0,!n.d.Approve⟩,A,rfl,h,rfl,rfl,rfl,?_⟩
    unfold joinC joinM
    rw[h.d]
   rw[e1,e3,Kbq e4 e5,bi_some]
   simp only
   cases passF x s.At != 0 with
   | true=>exact⟨n,al,rfl,h.up (by omega)⟩
   | false=>
    simp only[cond_false]
    have hx:=(hI.ps _ _ e1).2.2
    have h0:(a==0)=false:=by simp;omega
    refine body (some x) _ ⟨(al.1,hSet al.2.1 a ⟨x.Join,x.revoked,wi (x.used+1)⟩,al.2.2),⟨s.Node,bif (x.Join.Tags.length:Int)==0 then x.Join.By else s.By,s.Name,s.Public,x.Join.Tags,s.At,0,!A.d.Approve||x.Join.Ready⟩,{ A with ps:=mSet A.ps s.Join ⟨x.Join,x.revoked,wi (x.used+1)⟩ },?_,h.passes e2 _,rfl,rfl,rfl,rfl⟩
    have g1:hGet (hSet al.2.1 a (⟨x.Join,x.revoked,wi (x.used+1)⟩:Lcf)) a=some ⟨x.Join,x.revoked,wi (x.used+1)⟩:=by rw[Kbc _ _ _ _ _ e4,if_pos rfl]
    rw[h0,Kcw e5]
    simp only[Bool.not_false,cond_true,gd,e4,bi_some,g1]
    rw[Kci hx,h.d]
    simp only[bi_some]
    cases ((x.Join.Tags.length:Int)==0)<;>cases A.d.Approve<;>rfl
theorem Kbu(h:RN n al A c)(hv:StepV s)(hc:c<100000)(m:Lcb):∃ n' al',Lfi n s m al=some ((turnA A s m).1,n',al')∧RN n' al' (turnA A s m).2 (c+1):=by
 have fin:∀ (m':Lcb) (key:Bool),∃ n' al',(bi (Lew n s.At m' key al) fun y50=>some ((0:Int),y50.1,y50.2))=some (0,n',al')∧RN n' al' (setA A s.At m' key) (c+1):=fun m' key=>by
  obtain⟨n',al',e1,e2⟩:=Kco h hc s.At m' key
  exact⟨n',al',by rw[e1];rfl,e2⟩
 unfold Lfi turnA
 cases (s.Kind:Int)==4 with
 | true=>
  simp only[cond_true]
  cases m.Approved with
  | true=>exact⟨n,al,rfl,h.up (by omega)⟩
  | false=>exact fin _ _
 | false=>
  simp only[cond_false]
  cases (s.Kind:Int)==5 with
  | true=>
   simp only[cond_true]
   rw[Kcp h,bi_some]
   cases heldA A.th s.Public with
   | true=>exact⟨n,al,rfl,h.up (by omega)⟩
   | false=>
    simp only[cond_false]
    rw[Kcq h,bi_some]
    obtain⟨n',al',e1,e2⟩:=fin ⟨m.Node,m.User,m.Name,s.Public,m.Tags,m.Joined,lastA A.d s.At m.User,m.Approved⟩ true
    exact⟨n',al',e1,e2.hi _⟩
  | false=>
   simp only[cond_false]
   cases (s.Kind:Int)==6 with
   | true=>
    simp only[cond_true]
    cases (m.Name:Str)==s.Name with
    | true=>exact⟨n,al,rfl,h.up (by omega)⟩
    | false=>exact fin _ _
   | false=>
    simp only[cond_false]
    cases (s.Kind:Int)==7 with
    | true=>
     simp only[cond_true]
     cases (s.Tags.length:Int)==0 with
     | true=>exact⟨n,al,rfl,h.up (by omega)⟩
     | false=>
      simp only[cond_false]
      rw[Kcr h,bi_some]
      cases tagF A.d s.By s.Tags != 0 with
      | true=>exact⟨n,al,rfl,h.up (by omega)⟩
      | false=>
       simp only[cond_false]
       rw[Kci (Kch hv.ok),bi_some]
       exact fin _ _
    | false=>
     simp only[cond_false]
     cases (s.Kind:Int)==8 with
     | true=>
      simp only[cond_true]
      cases decide (m.Expires≤s.At) with
      | true=>exact⟨n,al,rfl,h.up (by omega)⟩
      | false=>exact fin _ _
     | false=>
      simp only[cond_false]
      obtain⟨s',t',e1,e2,e3,e4⟩:=Kcn h.so hc s.Node ⟨s.At,⟨[],[],[],[],[],0,0,false⟩,true,false⟩
      rw[e1]
      refine⟨⟨n.d,n.users,n.passes,mDel n.there s.Node,mSet n.story s.Node s'⟩,(t',al.2),rfl,⟨h.bag.up e4,h.d,h.us,h.ph,h.ps,?_,e2,?_⟩⟩
      ·show mDel n.there s.Node=mDel A.th s.Node
       rw[h.th]
      show absS (mSet n.story s.Node s')=mSet A.st s.Node ((mGet A.st s.Node).getD []++_)
      rw[e3,h.st]
theorem Kbv(h:RN n al A c)(hI:AInv A)(hv:StepV s)(hc:c<100000):∃ n' al',Lfj n s al=some ((stepA A s).1,n',al')∧RN n' al' (stepA A s).2 (c+1):=by
 unfold Lfj stepA
 cases (s.Kind:Int)==3 with
 | true=>
  obtain⟨n',al',e1,e2⟩:=Kbt (s:=s) h hI hc
  exact⟨n',al',by simp only[cond_true];rw[e1];rfl,e2⟩
 | false=>
  simp only[cond_false]
  rw[h.us s.By]
  cases (A.d.Users.any fun x=>s.By==x) with
  | false=>exact⟨n,al,rfl,h.up (by omega)⟩
  | true=>
   simp only[Bool.not_true,cond_false]
   cases (s.Kind:Int)==1 with
   | true=>
    obtain⟨n',al',e1,e2⟩:=Kcv h hv
    exact⟨n',al',by simp only[cond_true];rw[e1];rfl,e2.up (by omega)⟩
   | false=>
    simp only[cond_false]
    cases (s.Kind:Int)==2 with
    | true=>
     obtain⟨al',e1,e2⟩:=Kcx (s:=s) h
     exact⟨n,al',by simp only[cond_true];rw[e1];rfl,e2.up (by omega)⟩
    | false=>
     simp only[cond_false]
     rw[h.th]
     cases hm:mGet A.th s.Node with
     | none=>exact⟨n,al,rfl,h.up (by omega)⟩
     | some m=>
      simp only[Option.isSome_some,Bool.not_true,cond_false,Option.getD_some]
      have hq:(bif (s.Kind:Int) != 4 then(bi (Lfh n s.By m) fun y20=>some (!y20)) else(some false))=some ((s.Kind:Int) != 4&&!mng A.d s.By m):=by
       rw[Kct h]
       cases (s.Kind:Int) != 4<;>rfl
      rw[hq,bi_some]
      cases ((s.Kind:Int) != 4&&!mng A.d s.By m) with
      | true=>exact⟨n,al,rfl,h.up (by omega)⟩
      | false=>
       obtain⟨n',al',e1,e2⟩:=Kbu h hv hc m
       exact⟨n',al',by simp only[cond_false];rw[e1];rfl,e2⟩
end
end Go.Gk
