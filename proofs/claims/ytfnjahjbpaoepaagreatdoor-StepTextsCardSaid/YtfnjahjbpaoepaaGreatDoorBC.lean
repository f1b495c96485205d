import Derived.Test.YtfnjahjbpaoepaaGreatDoorBB
set_option linter.all false
set_option maxRecDepth 100000
namespace Go.Gk
def hd(a:Int)(v:Str)(n:Int)(s:Kxx):Kxx:=⟨a,v,n,s.Kind,s.By,s.Node,s.Join,s.Public,s.Name,s.Tags,s.Until,s.Uses,s.Ready⟩
structure Bnd(s:Kxx):Prop where
 by_:s.By.length≤200000
 nd:s.Node.length≤200000
 jn:s.Join.length≤200000
 nm:s.Name.length≤200000
 tg:∀ x∈s.Tags,x.length≤200000
theorem Bnd.g{s:Kxx}(h:Bnd s){a:Int}{v:Str}{n:Int}(hv:v.length≤200000):StepG (hd a v n s):=⟨hv,h.by_,h.nd,h.jn,h.nm,h.tg⟩
theorem Kdc(s:Str)(hs:s.length≤1000000):Las s=some (Lib.split s [32],!((Lib.split s [32]).any fun x=>([]:Str)==x))∧Lbb s=some (Lib.split s [32],!((Lib.split s [32]).any fun x=>([]:Str)==x)):=by
 unfold Las Lbb
 rw[Kaa (Kbg 32 hs),Kaa (Kta _ _)]
 exact⟨rfl,rfl⟩
def und(w:Str):Str:=bif (w:Str)==[45] then[] else w
theorem Kdd(w:Str):Law w=some (und w):=by
 unfold Law und
 cases (w==[45])<;>rfl
theorem Kde(w:Str):Lbd w=some (und w):=by
 unfold Lbd und
 cases (w==[45])<;>rfl
theorem Kdf(w:Str)(h:w.length≤200000):(und w).length≤200000:=by
 unfold und
 cases (w==[45]) with
 | true=>exact Nat.zero_le _
 | false=>exact h
theorem Kdg(w:Str):∃ n,Lau 1000000 w=some (n,numB w 9)∧(numB w 9=true→n=numV w):=by
 obtain⟨n,h1,h2⟩:=numP w 9 (by decide)
 unfold Lau
 rw[show(9:Int)=((9:Nat):Int) from rfl,h1]
 exact⟨n,rfl,h2⟩
theorem Kdh(a:Int)(v:Str)(n:Int)(s:Kxx)(w:Str)(hw:w.length≤200000)(hB:Bnd s){f:Int}(hf:0≤f∧f≤8)(hT:f=5→s.Tags=[]) :
  ∃ b r s2,Lax 1000000 (hd a v n s) f w=some (b,r)∧Lbe s (ltr.getD f.toNat 0) w=some (b,s2)∧(b=true→r=hd a v n s2∧Bnd s2∧s2.Kind=s.Kind∧(f≠5→s2.Tags=s.Tags)):=by
 have hu:=Kdf w hw
 have K:f=0∨f=1∨f=2∨f=3∨f=4∨f=5∨f=6∨f=7∨f=8:=by omega
 rcases K with rfl | rfl | rfl | rfl | rfl | rfl | rfl | rfl | rfl
 ·refine⟨true,_,⟨s.At,s.Server,s.No,s.Kind,und w,s.Node,s.Join,s.Public,s.Name,s.Tags,s.Until,s.Uses,s.Ready⟩,?_,?_,fun _=>⟨rfl,⟨hu,hB.nd,hB.jn,hB.nm,hB.tg⟩,rfl,fun _=>rfl⟩⟩
  ·unfold Lax;rw[Kdd];rfl
  ·unfold Lbe;rw[Kde];rfl
 ·refine⟨true,_,⟨s.At,s.Server,s.No,s.Kind,s.By,und w,s.Join,s.Public,s.Name,s.Tags,s.Until,s.Uses,s.Ready⟩,?_,?_,fun _=>⟨rfl,⟨hB.by_,hu,hB.jn,hB.nm,hB.tg⟩,rfl,fun _=>rfl⟩⟩
  ·unfold Lax;rw[Kdd];rfl
  ·unfold Lbe;rw[Kde];rfl
 ·refine⟨true,_,⟨s.At,s.Server,s.No,s.Kind,s.By,s.Node,und w,s.Public,s.Name,s.Tags,s.Until,s.Uses,s.Ready⟩,?_,?_,fun _=>⟨rfl,⟨hB.by_,hB.nd,hu,hB.nm,hB.tg⟩,rfl,fun _=>rfl⟩⟩
  ·unfold Lax;rw[Kdd];rfl
  ·unfold Lbe;rw[Kde];rfl
 ·refine⟨true,_,⟨s.At,s.Server,s.No,s.Kind,s.By,s.Node,s.Join,und w,s.Name,s.Tags,s.Until,s.Uses,s.Ready⟩,?_,?_,fun _=>⟨rfl,⟨hB.by_,hB.nd,hB.jn,hB.nm,hB.tg⟩,rfl,fun _=>rfl⟩⟩
  ·unfold Lax;rw[Kdd];rfl
  ·unfold Lbe;rw[Kde];rfl
 ·refine⟨true,_,⟨s.At,s.Server,s.No,s.Kind,s.By,s.Node,s.Join,s.Public,und w,s.Tags,s.Until,s.Uses,s.Ready⟩,?_,?_,fun _=>⟨rfl,⟨hB.by_,hB.nd,hB.jn,hu,hB.tg⟩,rfl,fun _=>rfl⟩⟩
  ·unfold Lax;rw[Kdd];rfl
  ·unfold Lbe;rw[Kde];rfl
 ·have ht:=hT rfl
  cases hc:((w:Str)==[45]) with
  | true=>
   refine⟨true,hd a v n s,s,?_,?_,fun _=>⟨rfl,hB,rfl,fun h=>absurd rfl h⟩⟩
   ·unfold Lax
    rw[hc]
    show(bi (bi (Lar s.Tags []) fun y30=>some (hd a v n s,!y30)) fun q1=>some (q1.2,q1.1))=_
    rw[ht,Kta]
    rfl
   ·unfold Lbe
    rw[hc]
    rfl
  | false=>
   have hsp:=(Kbf 44 w.length w (Nat.le_refl _)).1
   refine⟨!((Lib.split w [44]).any fun x=>([]:Str)==x),_,⟨s.At,s.Server,s.No,s.Kind,s.By,s.Node,s.Join,s.Public,s.Name,Lib.split w [44],s.Until,s.Uses,s.Ready⟩,?_,?_,fun _=>⟨rfl,⟨hB.by_,hB.nd,hB.jn,hB.nm,fun x hx=>Nat.le_trans (hsp x hx).1 hw⟩,rfl,fun h=>absurd rfl h⟩⟩
   ·unfold Lax
    rw[hc,Kbg 44 (by omega)]
    show(bi (bi (Lar (Lib.split w [44]) []) fun y30=>some (hd a v n ⟨s.At,s.Server,s.No,s.Kind,s.By,s.Node,s.Join,s.Public,s.Name,Lib.split w [44],s.Until,s.Uses,s.Ready⟩,!y30)) fun q1=>some (q1.2,q1.1))=_
    rw[Kta]
    rfl
   ·unfold Lbe
    rw[hc,Kbg 44 (by omega)]
    show(bi (Lar (Lib.split w [44]) []) fun y20=>some (!y20,_))=_
    rw[Kta]
    rfl
 ·obtain⟨n1,h1,h2⟩:=Kdg w
  obtain⟨n2,h3,h4⟩:=numR w 9 (by decide) (by omega)
  refine⟨numB w 9,hd a v n ⟨s.At,s.Server,s.No,s.Kind,s.By,s.Node,s.Join,s.Public,s.Name,s.Tags,n1,s.Uses,s.Ready⟩,⟨s.At,s.Server,s.No,s.Kind,s.By,s.Node,s.Join,s.Public,s.Name,s.Tags,n2,s.Uses,s.Ready⟩,?_,?_,fun hb=>⟨by rw[h2 hb,h4 hb],⟨hB.by_,hB.nd,hB.jn,hB.nm,hB.tg⟩,rfl,fun _=>rfl⟩⟩
  ·unfold Lax;rw[h1];rfl
  ·unfold Lbe;rw[show(9:Int)=((9:Nat):Int) from rfl,h3];rfl
 ·obtain⟨n1,h1,h2⟩:=Kdg w
  obtain⟨n2,h3,h4⟩:=numR w 9 (by decide) (by omega)
  refine⟨numB w 9,hd a v n ⟨s.At,s.Server,s.No,s.Kind,s.By,s.Node,s.Join,s.Public,s.Name,s.Tags,s.Until,n1,s.Ready⟩,⟨s.At,s.Server,s.No,s.Kind,s.By,s.Node,s.Join,s.Public,s.Name,s.Tags,s.Until,n2,s.Ready⟩,?_,?_,fun hb=>⟨by rw[h2 hb,h4 hb],⟨hB.by_,hB.nd,hB.jn,hB.nm,hB.tg⟩,rfl,fun _=>rfl⟩⟩
  ·unfold Lax;rw[h1];rfl
  ·unfold Lbe;rw[show(9:Int)=((9:Nat):Int) from rfl,h3];rfl
 ·exact⟨_,hd a v n ⟨s.At,s.Server,s.No,s.Kind,s.By,s.Node,s.Join,s.Public,s.Name,s.Tags,s.Until,s.Uses,(w:Str)==[121,101,115]⟩,⟨s.At,s.Server,s.No,s.Kind,s.By,s.Node,s.Join,s.Public,s.Name,s.Tags,s.Until,s.Uses,(w:Str)==[121,101,115]⟩,rfl,rfl,fun _=>⟨rfl,⟨hB.by_,hB.nd,hB.jn,hB.nm,hB.tg⟩,rfl,fun _=>rfl⟩⟩
def step0:Kxx:=⟨0,[],0,0,[],[],[],[],[],[],0,0,false⟩
def fbP(L:List Str)(i29:Nat)(x31:Int)(s30:Kxx):Option (LS Kxx (Kxx×Bool)):=bi (getZ L (wi (4+(i29:Int)))) fun x40=>bi (Lax 1000000 s30 x31 x40) fun y42=>bif !y42.1 then(bi (some ((⟨0,[],0,0,[],[],[],[],[],[],0,0,false⟩:Kxx),false)) fun v=>some (.out v)) else(some (.go y42.2))
def fbR(w:List Str)(sn19:Nat)(x18:UInt8)(s17:Kxx):Option (LS Kxx (Kxx×Bool)):=bi (getZ w (wi ((sn19:Int)+1))) fun x28=>bi (Lbe s17 (x18.toNat:Int) x28) fun y30=>bif !y30.1 then(bi (some ((⟨0,[],0,0,[],[],[],[],[],[],0,0,false⟩:Kxx),false)) fun v=>some (.out v)) else(some (.go y30.2))
def ltrB(f:Int):UInt8:=(ltr.getD f.toNat 0).toNat.toUInt8
theorem Kdi{f:Int}(hf:0≤f∧f≤8):((ltrB f).toNat:Int)=ltr.getD f.toNat 0:=by
 have K:f=0∨f=1∨f=2∨f=3∨f=4∨f=5∨f=6∨f=7∨f=8:=by omega
 rcases K with rfl | rfl | rfl | rfl | rfl | rfl | rfl | rfl | rfl<;>rfl
theorem Kdj(a:Int)(v:Str)(n:Int)(L:List Str)(hL:∀ x∈L,x.length≤200000)(hLl:L.length≤300000):∀ (fl:List Int) (i:Nat) (s:Kxx),(∀ f∈fl,0≤f∧f≤8)→fl.Nodup→(5∈fl→s.Tags=[])→Bnd s→4+i+fl.length≤L.length→
  ∃ p q,rangeM (fbP L) i fl (hd a v n s)=some p∧rangeM (fbR (L.drop 3)) i (fl.map ltrB) s=some q∧((∃ s2,p=.go (hd a v n s2)∧q=.go s2∧Bnd s2)∨(p=.out (step0,false)∧q=.out (step0,false)))
 | [],i,s,_,_,_,hB,_=>⟨_,_,rfl,rfl,.inl ⟨s,rfl,rfl,hB⟩⟩
 | f :: fl,i,s,hf,hn,hT,hB,hl=>by
  have hl':4+i+(fl.length+1)≤L.length:=hl
  have hi:4+i<L.length:=by omega
  have g1:getZ L (wi (4+(i:Int)))=some L[4+i]:=by
   rw[Ktc (by omega) (by omega)]
   exact Ksz (by omega) (gGe hi)
  have g2:getZ (L.drop 3) (wi ((i:Int)+1))=some L[4+i]:=by
   rw[Ktc (by omega) (by omega)]
   refine Ksz (j:=i+1) (by omega) ?_
   rw[List.getElem?_drop,show 3+(i+1)=4+i by omega]
   exact gGe hi
  have hf0:=hf f mCs
  obtain⟨b,r,s2,e1,e2,e3⟩:=Kdh a v n s L[4+i] (hL _ (List.getElem_mem hi)) hB hf0 (fun h=>hT (by rw[h];exact mCs))
  have f1:fbP L i f (hd a v n s)=some (bif b then .go r else .out (step0,false)):=by
   unfold fbP
   rw[Kaa g1,Kaa e1]
   cases b<;>rfl
  have f2:fbR (L.drop 3) i (ltrB f) s=some (bif b then .go s2 else .out (step0,false)):=by
   unfold fbR
   rw[Kaa g2,Kdi hf0,Kaa e2]
   cases b<;>rfl
  rw[List.map_cons]
  cases b with
  | false=>exact⟨_,_,Kad f1,Kad f2,.inr ⟨rfl,rfl⟩⟩
  | true=>
   obtain⟨rfl,hB2,_,hT2⟩:=e3 rfl
   obtain⟨hn1,hn2⟩:=List.nodup_cons.1 hn
   obtain⟨p,q,p1,q1,h⟩:=Kdj a v n L hL hLl fl (i+1) s2 (fun g hg=>hf g (mCo _ hg)) hn2 (fun h5=>by
    rw[hT2 fun e=>hn1 (e▸h5)]
    exact hT (mCo _ h5)) hB2 (by omega)
   exact⟨p,q,(Kae f1).trans p1,(Kae f2).trans q1,h⟩
end Go.Gk
namespace Go.Gk
def kwT:List Str:=[[],[107,101,121],[114,101,118,111,107,101],[106,111,105,110],[97,112,112,114,111,118,101],[114,101,110,101,119],[110,97,109,101],[116,97,103],[101,120,112,105,114,101],[103,111,110,101]]
theorem Kce(l:List Str)(v:Str):Laq l v=some (ixZ (fun x=>v==x) l):=by
 unfold Laq
 rw[Kuv (fun x=>v==x) l (fun j x _=>by cases (v==x)<;>rfl)]
theorem Kcf{α:Type}(p:α→Bool)(l:List α):ixZ p l<(l.length:Int)∧-1≤ixZ p l:=by
 cases h:l.any p with
 | false=>rw[Kur h];omega
 | true=>
  obtain⟨i,a,h1,_,h3,_⟩:=Kus h
  have:=(gEs.1 h3).1
  rw[h1];omega
theorem Kcg{y:Int}(h1:1≤y)(h2:y≤9):∃ fl us,Kyy y=some fl∧Kzy y=some us∧Ksp us=some (fl.map ltrB)∧asc (fl.map ltrB)=true∧(∀ f∈fl,0≤f∧f≤8)∧fl.Nodup∧1≤fl.length∧fl.length≤6:=by
 have K:y=1∨y=2∨y=3∨y=4∨y=5∨y=6∨y=7∨y=8∨y=9:=by omega
 rcases K with rfl | rfl | rfl | rfl | rfl | rfl | rfl | rfl | rfl<;>exact⟨_,_,rfl,rfl,rfl,rfl,by decide,by decide,by decide,by decide⟩
theorem Kch(w:List Str):Lbf w=bi Lai fun y1=>bi (getZ w 0) fun x3=>bi (Laq y1 x3) fun y5=>bif decide ((y5:Int)<1) then(some ((⟨0,[],0,0,[],[],[],[],[],[],0,0,false⟩:Kxx),false)) else(bi (Kzy y5) fun y9=>bi (Ksp y9) fun y11=>bif ((w.length:Int):Int) != (wi ((y11.length:Int)+1)) then(some ((⟨0,[],0,0,[],[],[],[],[],[],0,0,false⟩:Kxx),false)) else(gd (asc y11) (bi (rangeM (fbR w) 0 y11 (⟨0,[],0,y5,[],[],[],[],[],[],0,0,false⟩:Kxx)) fun q=>goI q fun s17=>some (s17,true)))):=rfl
def sk(y:Int):Kxx:=⟨0,[],0,y,[],[],[],[],[],[],0,0,false⟩
def ntail(L:List Str)(y a:Int)(v:Str)(n:Int):Option (Kxx×Bool):=bi (Kyy y) fun y25=>bif ((L.length:Int):Int) != (wi (4+(y25.length:Int))) then(some ((⟨0,[],0,0,[],[],[],[],[],[],0,0,false⟩:Kxx),false)) else(bi (rangeM (fbP L) 0 y25 (⟨a,v,n,y,[],[],[],[],[],[],0,0,false⟩:Kxx)) fun q=>goI q fun a34=>some (a34,true))
theorem Kci(L:List Str)(hL:∀ x∈L,x.length≤200000)(hLl:L.length≤300000)(h4:4≤L.length):∃ y sf bf,Laq kwT L[3]=some y∧Lbf (L.drop 3)=some (sf,bf)∧(y<1→bf=false)∧(L.length=4→bf=false)∧(bf=true→Bnd sf)∧
  (1≤y→∀ a v n,ntail L y a v n=some (bif bf then hd a v n sf else step0,bf)):=by
 have hy:=Kcf (fun x=>L[3]==x) kwT
 have hlen:(kwT.length:Int)=10:=rfl
 have hix:=Kce kwT L[3]
 generalize ixZ (fun x=>L[3]==x) kwT=y at hy hix
 have g0:getZ (L.drop 3) 0=some L[3]:=by
  refine Ksz (j:=0) rfl ?_
  rw[List.getElem?_drop]
  exact gGe (by omega)
 have hdl:(L.drop 3).length=L.length - 3:=List.length_drop
 rw[Kch,show Lai=some kwT from rfl,bi_some,Kaa g0,Kaa hix]
 by_cases hy1:y<1
 ·rw[dT hy1]
  exact⟨y,step0,false,hix,rfl,fun _=>rfl,fun _=>rfl,fun h=>(by cases h),fun h=>absurd hy1 (by omega)⟩
 ·rw[dF hy1,cond_false]
  obtain⟨fl,us,k1,k2,k3,k4,k5,k6,k7,k8⟩:=Kcg (y:=y) (by omega) (by omega)
  rw[Kaa k2,Kaa k3,hdl,List.length_map]
  have w1:wi ((fl.length:Int)+1)=(fl.length:Int)+1:=Ktc (by omega) (by omega)
  have w2:wi (4+(fl.length:Int))=4+(fl.length:Int):=Ktc (by omega) (by omega)
  by_cases hl:L.length=4+fl.length
  ·have e1:((((L.length - 3:Nat):Int):Int) != (wi ((fl.length:Int)+1)))=false:=by
    rw[w1];simp;omega
   have e2:(((L.length:Int):Int) != (wi (4+(fl.length:Int))))=false:=by
    rw[w2];simp;omega
   rw[e1,cond_false,k4]
   obtain⟨p,q,p1,q1,hpq⟩:=Kdj 0 [] 0 L hL hLl fl 0 (sk y) k5 k6 (fun _=>rfl) ⟨Nat.zero_le _,Nat.zero_le _,Nat.zero_le _,Nat.zero_le _,fun x hx=>by cases hx⟩ (by omega)
   rw[show(gd true (bi (rangeM (fbR (L.drop 3)) 0 (fl.map ltrB) (⟨0,[],0,y,[],[],[],[],[],[],0,0,false⟩:Kxx)) fun q=>goI q fun s17=>some (s17,true)))=bi (rangeM (fbR (L.drop 3)) 0 (fl.map ltrB) (sk y)) fun q=>goI q fun s17=>some (s17,true) from rfl,Kaa q1]
   rcases hpq with⟨s2,rfl,rfl,hb⟩ | ⟨rfl,rfl⟩
   ·refine⟨y,s2,true,hix,rfl,fun h=>absurd h hy1,fun h=>by omega,fun _=>hb,fun _ a v n=>?_⟩
    obtain⟨p',q',p1',q1',hpq'⟩:=Kdj a v n L hL hLl fl 0 (sk y) k5 k6 (fun _=>rfl) ⟨Nat.zero_le _,Nat.zero_le _,Nat.zero_le _,Nat.zero_le _,fun x hx=>by cases hx⟩ (by omega)
    rw[q1] at q1'
    cases q1'
    unfold ntail
    rw[Kaa k1,e2,cond_false]
    rcases hpq' with⟨s3,rfl,h3,_⟩ | ⟨_,h3⟩
    ·cases h3
     rw[show(⟨a,v,n,y,[],[],[],[],[],[],0,0,false⟩:Kxx)=hd a v n (sk y) from rfl,Kaa p1']
     rfl
    ·cases h3
   ·refine⟨y,step0,false,hix,rfl,fun _=>rfl,fun _=>rfl,fun h=>(by cases h),fun _ a v n=>?_⟩
    obtain⟨p',q',p1',q1',hpq'⟩:=Kdj a v n L hL hLl fl 0 (sk y) k5 k6 (fun _=>rfl) ⟨Nat.zero_le _,Nat.zero_le _,Nat.zero_le _,Nat.zero_le _,fun x hx=>by cases hx⟩ (by omega)
    rw[q1] at q1'
    cases q1'
    unfold ntail
    rw[Kaa k1,e2,cond_false]
    rcases hpq' with⟨s3,_,h3,_⟩ | ⟨rfl,_⟩
    ·cases h3
    ·rw[show(⟨a,v,n,y,[],[],[],[],[],[],0,0,false⟩:Kxx)=hd a v n (sk y) from rfl,Kaa p1']
     rfl
  ·have e1:((((L.length - 3:Nat):Int):Int) != (wi ((fl.length:Int)+1)))=true:=by
    rw[w1];simp;omega
   have e2:(((L.length:Int):Int) != (wi (4+(fl.length:Int))))=true:=by
    rw[w2];simp;omega
   rw[e1]
   refine⟨y,step0,false,hix,rfl,fun _=>rfl,fun _=>rfl,fun h=>(by cases h),fun _ a v n=>?_⟩
   unfold ntail
   rw[Kaa k1,e2]
   rfl
theorem Kcj(a b:Str):∃ r,Lav 1000000 [a,b]=some (r,numB a 9&&numB b 9)∧((numB a 9&&numB b 9)=true→r=[numV a,numV b]):=by
 obtain⟨n,h1,h2⟩:=Kdg a
 obtain⟨m,h3,h4⟩:=Kdg b
 unfold Lav
 simp only[rangeM,h1,h3,bi_some]
 cases ha:numB a 9 with
 | false=>exact⟨[],rfl,fun h=>by cases h⟩
 | true=>
  cases hb:numB b 9 with
  | false=>exact⟨[],rfl,fun h=>by cases h⟩
  | true=>exact⟨[n,m],rfl,fun _=>by rw[h2 ha,h4 hb]⟩
theorem Kck(k:Nat)(line:Str):Laz 1000000 line=bi (Las line) fun y1=>bif ((!y1.2)||(decide (((y1.1.length:Int):Int)<5))) then(some ((⟨0,[],0,0,[],[],[],[],[],[],0,0,false⟩:Kxx),false)) else(bi (getZ y1.1 0) fun x5=>bi (getZ y1.1 2) fun x7=>bi (Lav 1000000 [x5,x7]) fun y9=>bi Kzm fun y11=>bi (getZ y1.1 3) fun x13=>bi (Laq y11 x13) fun y15=>bif ((!y9.2)||(decide ((y15:Int)<1))) then(some ((⟨0,[],0,0,[],[],[],[],[],[],0,0,false⟩:Kxx),false)) else(bi (getZ y9.1 0) fun x19=>bi (getZ y1.1 1) fun x21=>bi (getZ y9.1 1) fun x23=>ntail y1.1 y15 x19 x21 x23)):=rfl
theorem Kcl(x:Str)(hx:x.length≤200000)(acc:List Kxx)(ha:acc.length≤300000):∃ s b acc',Laz 1000000 x=some (s,b)∧Lbg x acc=some (b,acc')∧(b=true→acc'=acc++[s]∧StepG s):=by
 obtain⟨w1,w2⟩:=Kdc x (by omega)
 obtain⟨m1,_,m3⟩:=Kbf 32 x.length x (Nat.le_refl _)
 rw[Kck 0]
 unfold Lbg
 rw[Kaa w1,Kaa w2]
 simp only[]
 generalize (!((Lib.split x [32]).any fun x=>([]:Str)==x))=wb
 generalize Lib.split x [32]=L at m1 m3 ⊢
 cases wb with
 | false=>exact⟨step0,false,acc,rfl,rfl,fun h=>by cases h⟩
 | true=>
  by_cases h4:4≤L.length
  ·have hL:∀ y∈L,y.length≤200000:=fun y hy=>Nat.le_trans (m1 y hy).1 hx
   obtain⟨y,sf,bf,f1,f2,f3,f4,f5,f6⟩:=Kci L hL (by omega) h4
   have g0:getZ L 0=some L[0]:=Ksz (j:=0) rfl (gGe (by omega))
   have g1:getZ L 1=some L[1]:=Ksz (j:=1) rfl (gGe (by omega))
   have g2:getZ L 2=some L[2]:=Ksz (j:=2) rfl (gGe (by omega))
   have g3:getZ L 3=some L[3]:=Ksz (j:=3) rfl (gGe (by omega))
   have hs:subZ L 3 (L.length:Int)=some (L.drop 3):=by
    have:=Ksx (l:=L) (i:=3) (j:=L.length) (by omega) (Nat.le_refl _)
    rw[List.take_length] at this
    exact this
   obtain⟨n0,a1,a2⟩:=numR L[0] 9 (by decide) (Nat.le_trans (hL _ (List.getElem_mem (by omega))) (by decide))
   obtain⟨n2,b1,b2⟩:=numR L[2] 9 (by decide) (Nat.le_trans (hL _ (List.getElem_mem (by omega))) (by decide))
   have a1':Lbc L[0] 9=some (n0,numB L[0] 9):=a1
   have b1':Lbc L[2] 9=some (n2,numB L[2] 9):=b1
   obtain⟨nn,c1,c2⟩:=Kcj L[0] L[2]
   have hr:(bif ((!true)||(decide (((L.length:Int):Int)<4))) then(some (false,acc)) else(bi (getZ L 0) fun x5=>bi (Lbc x5 9) fun y7=>bi (getZ L 2) fun x9=>bi (Lbc x9 9) fun y11=>bi (subZ L 3 (L.length:Int)) fun z13=>bi (Lbf z13) fun y15=>bi (getZ L 1) fun x17=>bi (apd acc [(⟨y7.1,x17,y11.1,y15.1.Kind,y15.1.By,y15.1.Node,y15.1.Join,y15.1.Public,y15.1.Name,y15.1.Tags,y15.1.Until,y15.1.Uses,y15.1.Ready⟩:Kxx)]) fun y19=>some (((y7.2&&y11.2)&&y15.2),y19)))=some (((numB L[0] 9&&numB L[2] 9)&&bf),acc++[hd n0 L[1] n2 sf]):=by
    rw[dF (show ¬ (L.length:Int)<4 by omega),Bool.not_true,Bool.or_false,cond_false,Kaa g0,Kaa a1',Kaa g2,Kaa b1',Kaa hs,Kaa f2,Kaa g1,Kaa (Ktj (by simp;omega))]
    rfl
   refine⟨bif ((numB L[0] 9&&numB L[2] 9)&&bf) then hd n0 L[1] n2 sf else step0,_,_,?_,hr,?_⟩
   ·by_cases h5:L.length=4
    ·rw[f4 h5,dT (show(L.length:Int)<5 by omega),Bool.and_false]
     rfl
    rw[dF (show ¬ (L.length:Int)<5 by omega),Bool.not_true,Bool.or_false,cond_false,Kaa g0,Kaa g2,Kaa c1,show Kzm=some kwT from rfl,bi_some,Kaa g3,Kaa f1]
    simp only[]
    cases hn:(numB L[0] 9&&numB L[2] 9) with
    | false=>rfl
    | true=>
     by_cases hy:y<1
     ·rw[f3 hy,dT hy]
      rfl
     rw[dF hy,c2 hn]
     have hn':=Bool.and_eq_true _ _▸hn
     have t1:getZ [numV L[0],numV L[2]] 0=some (numV L[0]):=rfl
     have t2:getZ [numV L[0],numV L[2]] 1=some (numV L[2]):=rfl
     rw[Bool.not_true,Bool.or_false,cond_false,Kaa t1,Kaa g1,Kaa t2,f6 (by omega),a2 (by simpa using (Bool.and_eq_true_iff.1 hn).1),b2 (by simpa using (Bool.and_eq_true_iff.1 hn).2)]
     rfl
   intro h
   have h2:=Bool.and_eq_true_iff.1 h
   rw[h]
   exact⟨rfl,(f5 h2.2).g (hL _ (List.getElem_mem (by omega)))⟩
  rw[dT (show(L.length:Int)<5 by omega),dT (show(L.length:Int)<4 by omega)]
  exact⟨step0,false,acc,rfl,rfl,fun h=>by cases h⟩
end Go.Gk
namespace Go.Gk
abbrev LT:Type:=List Kxx
def lsP(n:Nat)(fl:Bool)(i5:Nat)(x7:Str)(s6:LT):Option (LS LT (LT×Int×Int)):=bi (Laz 1000000 x7) fun y16=>bif ((!y16.2)||((!fl)&&(((i5:Int):Int)==(wi ((n:Int) - 1))))) then(bi (some (([]:LT),(i5:Int),(9:Int))) fun v=>some (.out v)) else(bi (apd s6 [y16.1]) fun y22=>some (.go y22))
def lsR(s2:LT×Str×Int):Option (LS (LT×Str×Int) (LT ⊕ (Int×Bool×LT))):=bif !((s2.2.1:Str)==[]) then(bi (Ksd s2.2.1 [10]) fun y12=>bi (bif !y12.2.2 then(some (s2.1,true)) else(bi (Lbg y12.1 s2.1) fun y18=>some (y18.2,!y18.1))) fun q14=>bif q14.2 then(bi (some (s2.2.2,false,q14.1)) fun v=>some (.out (.inr v))) else(some (.go (q14.1,y12.2.1,wi (s2.2.2+1))))) else(some (.out (.inl s2.1)))
theorem Kcm(text:Str):Lba 1000000 text=bif decide (((text.length:Int):Int)>200000) then(some ([],0,2)) else(bi (Lap text) fun y3=>bi (rangeM (lsP y3.1.length y3.2) 0 y3.1 ([]:List Kxx)) fun q=>goI q fun a10=>bi (Kzl 1000000 a10) fun y24=>bif (y24:Int) != 0 then(some ([],0,y24)) else(some (a10,0,0))):=rfl
theorem Kcn(text:Str)(f:LT):Lbh 1000000 text f=bi (loopM lsR 1000000 (f,text,0)) fun q=>orI q fun a6=>some (0,true,a6):=rfl
theorem Kco(B:Nat)(hB:B≤200000)(n:Nat)(fl:Bool)(hn:n≤300000):∀ (m:Nat) (t:Str) (i k:Nat) (s:LT),t.length=m→m≤B→m<k→i+(linT t).1.length=n→fl=(linT t).2→s.length≤i→(∀ x∈s,StepG x)→
  ∃ p q,rangeM (lsP n fl) i (linT t).1 s=some p∧loopM lsR k (s,t,(i:Int))=some q∧((∃ s':LT,p=.go s'∧q=.inl s'∧∀ x∈s',StepG x)∨∃ (j:Nat) (z:LT),p=.out ([],(j:Int),9)∧q=.inr ((j:Int),false,z))
 | m,t,i,0,s,_,_,hk,_,_,_,_=>absurd hk (Nat.not_lt_zero _)
 | m,t,i,k+1,s,hm,hmB,hk,hi,hfl,hs,hx=>by
  rcases Kbb 10 t with h | ⟨x,t',h1,h2⟩
  ·by_cases hn0:t=[]
   ·subst hn0
    rw[Kbi] at hi hfl ⊢
    exact⟨.go s,.inl s,rfl,Kac _ rfl,.inl ⟨s,rfl,rfl,hx⟩⟩
   ·rw[Kbj hn0 h] at hi hfl ⊢
    have hi':i+1=n:=hi
    have hfl':fl=false:=hfl
    subst hfl'
    obtain⟨r,b,z,r1,_,_⟩:=Kcl t (by omega) s (by omega)
    have hw:((((i:Int):Int))==(wi ((n:Int) - 1)))=true:=by
     rw[Ktc (by omega) (by omega)]
     exact beq_iff_eq.2 (by omega)
    have e1:lsP n false i t s=some (.out ([],(i:Int),9)):=by
     unfold lsP
     rw[Kaa r1,hw]
     cases b<;>rfl
    have e2:lsR (s,t,(i:Int))=some (.out (.inr ((i:Int),false,s))):=by
     unfold lsR
     simp only[]
     rw[Kaf,dF (show ¬ t.length=0 from fun h0=>hn0 (List.eq_nil_of_length_eq_zero h0)),Kaa (Kbm 10 (by omega)),Kbc h]
     rfl
    exact⟨_,_,Kad e1,Kac _ e2,.inr ⟨i,s,rfl,rfl⟩⟩
  ·have hl:t.length=x.length+1+t'.length:=by rw[h1];simp;omega
   rw[h1,Kbk t' h2] at hi hfl ⊢
   have hi':i+((linT t').1.length+1)=n:=hi
   have hfl':fl=(linT t').2:=hfl
   have hlast:fl=false→i+1≠n:=fun hf he=>by
    have h0:(linT t').1=[]:=List.eq_nil_of_length_eq_zero (by omega)
    rcases Kbb 10 t' with g | ⟨y,t2,g1,g2⟩
    ·by_cases g0:t'=[]
     ·rw[g0,Kbi,hf] at hfl';cases hfl'
     ·rw[Kbj g0 g] at h0;cases h0
    ·rw[g1,Kbk t2 g2] at h0;cases h0
   have hw:((!fl)&&(((i:Int):Int)==(wi ((n:Int) - 1))))=false:=by
    cases hf:fl with
    | true=>rfl
    | false=>
     have:=hlast hf
     rw[Bool.not_false,Bool.true_and,Ktc (by omega) (by omega)]
     exact beq_eq_false_iff_ne.2 (by omega)
   obtain⟨r,b,z,r1,r2,r3⟩:=Kcl x (by omega) s (by omega)
   have e1:lsP n fl i x s=some (bif b then .go (s++[r]) else .out ([],(i:Int),9)):=by
    unfold lsP
    rw[Kaa r1,hw,Kaa (Ktj (by simp;omega))]
    cases b<;>rfl
   have e2:lsR (s,x++10 :: t',(i:Int))=some (bif b then .go (z,t',((i+1:Nat):Int)) else .out (.inr ((i:Int),false,z))):=by
    unfold lsR
    simp only[]
    rw[Kaf,dF (show ¬ (x++10 :: t').length=0 by simp),Kaa (Kbm 10 (by simp;omega)),Kbd t' h2]
    simp only[Bool.not_false,Bool.not_true,cond_true,cond_false]
    rw[r2]
    simp only[bi_some]
    rw[Ktc (by omega) (by omega)]
    cases b<;>rfl
   cases b with
   | false=>exact⟨_,_,Kad e1,Kac _ e2,.inr ⟨i,z,rfl,rfl⟩⟩
   | true=>
    obtain⟨rfl,hg⟩:=r3 rfl
    obtain⟨p,q,p1,q1,pq⟩:=Kco B hB n fl hn t'.length t' (i+1) k (s++[r]) rfl (by omega) (by omega) (by omega) hfl' (by simp;omega) (fun y hy=>by
     rcases List.mem_append.1 hy with hy | hy
     ·exact hx y hy
     ·rw[List.mem_singleton.1 hy];exact hg)
    exact⟨p,q,(Kae e1).trans p1,(Kab _ e2).trans q1,pq⟩
theorem Kcp(L:List Str):(linL L).1.length≤L.length:=by
 unfold linL
 split
 ·simp
 exact Nat.le_refl _
theorem Kcq(text:Str):∃ z e j,Lba 1000000 text=some (z,j,e)∧Lbi 1000000 text=some (z,j,e):=by
 rw[Kcm]
 unfold Lbi
 by_cases ht:text.length>200000
 ·rw[dT (show((text.length:Int)>200000) by omega)]
  exact⟨_,_,_,rfl,rfl⟩
 have hle:(linT text).1.length≤text.length+1:=Nat.le_trans (Kcp _) (Kbf 10 text.length text (Nat.le_refl _)).2.2
 rw[dF (show ¬ ((text.length:Int)>200000) by omega),cond_false,cond_false,Kaa (Kbl text (by omega)),Kcn]
 obtain⟨p,q,p1,q1,pq⟩:=Kco text.length (by omega) (linT text).1.length (linT text).2 (by omega) text.length text 0 1000000 [] rfl (Nat.le_refl _) (by omega) (by omega) rfl (by simp) (fun x hx=>by cases hx)
 rw[show((0:Nat):Int)=0 from rfl] at q1
 rw[Kaa p1,q1,bi_some]
 rcases pq with⟨s,rfl,rfl,hx⟩ | ⟨j,z,rfl,rfl⟩
 ·obtain⟨e,c1,c2,_⟩:=Lft hx
  simp only[goI,orI,bi_some,Bool.not_true,cond_false]
  rw[Kaa c1,Kaa c2]
  cases (e != 0) with
  | true=>exact⟨_,_,_,rfl,rfl⟩
  | false=>exact⟨_,_,_,rfl,rfl⟩
 exact⟨_,_,_,rfl,rfl⟩
end Go.Gk
