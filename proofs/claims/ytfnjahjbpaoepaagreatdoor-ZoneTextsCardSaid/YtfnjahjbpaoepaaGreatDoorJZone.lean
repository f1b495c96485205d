import Derived.Test.YtfnjahjbpaoepaaGreatDoorILoose
import Derived.Test.YtfnjahjbpaoepaaGreatDoorJFault
set_option linter.all false
set_option maxRecDepth 100000
namespace Go.Gk
def linL(L:List Str):List Str×Bool:=match L.getLast? with
 | some []=>(L.dropLast,true)
 | _=>(L,false)
theorem Krq(x:Str){L:List Str}(h:L≠[]):linL (x :: L)=(x :: (linL L).1,(linL L).2):=by
 unfold linL
 rw[List.getLast?_cons_of_ne_nil h]
 have h2:(x :: L).dropLast=x :: L.dropLast:=List.dropLast_cons_of_ne_nil h
 rw[h2]
 split<;>rfl
def linT(t:Str):List Str×Bool:=linL (Lib.split t [10])
theorem Krr:linT []=([],true):=by
 unfold linT
 rw[Kqm (s:=[]) (fun b hb=>by cases hb)]
 rfl
theorem Krs{t:Str}(hn:t≠[])(h:∀ b∈t,b≠10):linT t=([t],false):=by
 unfold linT
 rw[Kqm h]
 cases t with
 | nil=>exact absurd rfl hn
 | cons c t=>rfl
theorem Krt{x:Str}(t:Str)(h:∀ b∈x,b≠10):linT (x++10 :: t)=(x :: (linT t).1,(linT t).2):=by
 unfold linT
 rw[Kqn t h]
 exact Krq x (Kqr 10 t)
theorem Kru(t:Str)(h:t.length≤1000000):Lbb t=some (linT t):=by
 unfold Lbb linT
 rw[Koo (Kqw 10 h)]
 have hne:=Kqr 10 t
 have hlen:=(Kqs 10 t.length t (Nat.le_refl _)).2.2
 generalize Lib.split t [10]=L at hne hlen ⊢
 have h1:1≤L.length:=List.length_pos_iff.2 hne
 rw[show wi ((L.length:Int) - 1)=((L.length - 1:Nat):Int) from by rw[Kwl (by omega) (by omega)];omega]
 have hg:L[L.length - 1]?=some (L.getLast hne):=by rw[←List.getLast?_eq_getElem?,List.getLast?_eq_some_getLast hne]
 rw[Koo (Kxd hg)]
 unfold linL
 rw[List.getLast?_eq_some_getLast hne]
 generalize L.getLast hne=z
 cases z with
 | nil=>
  show(bi (subZ L 0 ((L.length - 1:Nat):Int)) fun z6=>some (z6,true))=_
  have:=Kxc (l:=L) (i:=0) (j:=L.length - 1) (by omega) (by omega)
  rw[show(0:Int)=((0:Nat):Int) from rfl,Koo this,List.drop_zero,List.dropLast_eq_take]
 | cons c z=>rfl
end Go.Gk
namespace Go.Gk
theorem Krv(s:Str)(h:s.length≤1000000):Kui s [32] 4=some (Lib.splitN s [32] 4):=by
 show gd (Nat.blt s.length 4294967281&&(Nat.ble 1 4&&Nat.ble 4 9223372036854775807)) (some (Lib.splitN s [32] 4))=_
 rw[show Nat.blt s.length 4294967281=true from by rw[Nat.blt_eq];omega]
 rfl
theorem Krw(sep:Str):∀ (k:Nat) (s:Str),(Lib.splitK sep 0 k s).length≤k+1∧∀ x∈Lib.splitK sep 0 k s,x.length≤s.length
 | 0,s=>⟨by simp[Lib.splitK],fun x hx=>by rw[List.mem_singleton.1 (show x∈[s] from hx)];exact Nat.le_refl _⟩
 | k+1,s=>by
  unfold Lib.splitK
  split
  ·exact⟨by simp,fun x hx=>by rw[List.mem_singleton.1 hx];exact Nat.le_refl _⟩
  obtain⟨h1,h2⟩:=Krw sep k (s.drop ((Lib.index s sep).toNat+sep.length))
  refine⟨by simp;omega,fun x hx=>?_⟩
  rcases List.mem_cons.1 hx with rfl | hx
  ·simp;omega
  have:=h2 x hx
  simp at this
  omega
theorem Krx(s:Str):(Lib.splitN s [32] 4).length≤4∧∀ x∈Lib.splitN s [32] 4,x.length≤s.length:=by
 obtain⟨h1,h2⟩:=Krw [32] (min 4 (s.length+1) - 1) s
 unfold Lib.splitN
 exact⟨by omega,h2⟩
def kindOf(x:Str):Int:=if x=[97,97,97,97] then 28 else if x=[119,111,114,100,115] then 16 else if x=[98,97,99,107] then 12 else if x=[97,108,105,97,115] then 5 else if x=[97] then 1 else 0
theorem Lig(a x c d:Str):rangeF (σ:=Int) (fun i17 x19 s18=>bi (Kzz x19) fun y28=>bi (getZ [a,x,c,d] 1) fun x30=>bif (y28:Str)==x30 then(some x19) else(some s18)) 0 [1,5,12,16,28] 0=some (kindOf x):=by
 have hk:∀ (w:Str) (n:Int) (s:Int),(bif (w:Str)==x then some n else some s)=some (if x=w then n else s):=fun w n s=>by
  by_cases h:x=w
  ·rw[if_pos h,h,beq_self_eq_true];rfl
  rw[if_neg h,beq_eq_false_iff_ne.2 (fun e=>h e.symm)];rfl
 have g:getZ [a,x,c,d] 1=some x:=rfl
 simp only[rangeF]
 rw[show Kzz 1=some [97] from rfl,show Kzz 5=some [97,108,105,97,115] from rfl,show Kzz 12=some [98,97,99,107] from rfl,show Kzz 16=some [119,111,114,100,115] from rfl,show Kzz 28=some [97,97,97,97] from rfl]
 simp only[bi_some,g,hk]
 rfl
def idxOf(x:Str):Int:=if x=[97] then 0 else if x=[97,108,105,97,115] then 1 else if x=[98,97,99,107] then 2 else if x=[119,111,114,100,115] then 3 else if x=[97,97,97,97] then 4 else -1
theorem idxR(x:Str):Lbc [[97],[97,108,105,97,115],[98,97,99,107],[119,111,114,100,115],[97,97,97,97]] x=some (idxOf x):=by
 have hk:∀ w:Str,((x:Str)==w)=decide (x=w):=fun w=>by rw[Bool.eq_iff_iff];simp
 unfold Lbc idxOf
 simp only[rangeM,hk]
 by_cases h1:x=[97]
 ·rw[if_pos h1,dT h1];rfl
 rw[if_neg h1,dF h1]
 by_cases h2:x=[97,108,105,97,115]
 ·rw[if_pos h2,dT h2];rfl
 rw[if_neg h2,dF h2]
 by_cases h3:x=[98,97,99,107]
 ·rw[if_pos h3,dT h3];rfl
 rw[if_neg h3,dF h3]
 by_cases h4:x=[119,111,114,100,115]
 ·rw[if_pos h4,dT h4];rfl
 rw[if_neg h4,dF h4]
 by_cases h5:x=[97,97,97,97]
 ·rw[if_pos h5,dT h5];rfl
 rw[if_neg h5,dF h5]
 rfl
theorem Kry(x:Str):(kindOf x=0∧idxOf x<0)∨(0≤idxOf x∧getZ ([1,5,12,16,28]:List Int) (idxOf x)=some (kindOf x)∧(kindOf x=1∨kindOf x=5∨kindOf x=12∨kindOf x=16∨kindOf x=28)):=by
 unfold kindOf idxOf
 by_cases h1:x=[97]
 ·subst h1;exact .inr (by decide)
 by_cases h2:x=[97,108,105,97,115]
 ·subst h2;exact .inr (by decide)
 by_cases h3:x=[98,97,99,107]
 ·subst h3;exact .inr (by decide)
 by_cases h4:x=[119,111,114,100,115]
 ·subst h4;exact .inr (by decide)
 by_cases h5:x=[97,97,97,97]
 ·subst h5;exact .inr (by decide)
 rw[if_neg h1,if_neg h2,if_neg h3,if_neg h4,if_neg h5,if_neg h1,if_neg h2,if_neg h3,if_neg h4,if_neg h5]
 exact .inl (by decide)
def zrec(r:Kyb)(B:Nat):Prop:=r.Name.length≤B∧r.To.length≤B∧r.Words.length≤B∧0≤r.Addr.Hi
theorem Krz(s:Str)(hs:s.length≤39000):∃ r b r',Lbl 40000 s=some (r,b)∧Lbv 40000 s=some (r',b)∧(b=true→r'=r∧zrec r s.length):=by
 obtain⟨l1,l2⟩:=Krx s
 unfold Lbl Lbv
 rw[Koo (Krv s (by omega)),Koo (Krv s (by omega))]
 generalize Lib.splitN s [32] 4=L at l1 l2 ⊢
 by_cases h4:L.length=4
 ·match L,h4,l2 with
  | [a,x,c,d],_,l2=>
   have la:=l2 a (by simp);have lc:=l2 c (by simp);have ld:=l2 d (by simp)
   have g0:getZ [a,x,c,d] 0=some a:=rfl
   have g1:getZ [a,x,c,d] 1=some x:=rfl
   have g2:getZ [a,x,c,d] 2=some c:=rfl
   have g3:getZ [a,x,c,d] 3=some d:=rfl
   have e4:((((([a,x,c,d]:List Str).length:Nat):Int) != 4):Bool)=false:=rfl
   have e5:decide (((([a,x,c,d]:List Str).length:Nat):Int)<4)=false:=rfl
   rw[e4,e5]
   simp only[cond_false]
   rw[Koo g0,bi_some,bi_some]
   cases ha:(a==[]) with
   | true=>exact⟨_,_,_,rfl,rfl,fun h=>by cases h⟩
   | false=>
    obtain⟨n,n1,n2⟩:=numP c 9 (by decide)
    obtain⟨n',r1,r2⟩:=numR c 9 (by decide) (by omega)
    have ns:Lbg 40000 c=some (n,numB c 9):=by
     unfold Lbg
     rw[show(9:Int)=((9:Nat):Int) from rfl,Koo n1]
    simp only[cond_false]
    rw[Koo g2,Koo ns,Koo g0,Koo (Lig a x c d)]
    rw[show Lav=some [[97],[97,108,105,97,115],[98,97,99,107],[119,111,114,100,115],[97,97,97,97]] from rfl,bi_some,Koo g1,Koo (idxR x),Koo g2,show(9:Int)=((9:Nat):Int) from rfl,Koo r1]
    simp only[]
    cases hb:numB c 9 with
    | false=>
     rw[Bool.not_false,Bool.true_or,Bool.or_true]
     exact⟨_,_,_,rfl,rfl,fun h=>by cases h⟩
    | true=>
     have e1:=n2 hb
     have e2:=r2 hb
     rw[Bool.not_true,Bool.false_or,Bool.or_false]
     rcases Kry x with⟨k0,k1⟩ | ⟨k0,k1,k2⟩
     ·rw[k0,dT k1]
      exact⟨_,_,_,rfl,rfl,fun h=>by cases h⟩
     have kn:((kindOf x==0):Bool)=false:=beq_eq_false_iff_ne.2 (by omega)
     rw[kn,dF (by omega),cond_false,cond_false,Koo g0,show Lae=some [1,5,12,16,28] from rfl,bi_some,Koo k1]
     obtain⟨A,ea,p1,p2,p3,_⟩:=Kps d (by omega)
     have cn:Ktx d [32]=some (d.contains 32):=Kqv 32 (by omega)
     have hh:∀ k:Int,Kzk k=some ((k==5)||(k==12)):=fun k=>rfl
     have hne:∀ y:Str,(bif !((y:Str)==[]) then(bi (Ktx d [32]) fun y48=>some !y48) else(some false))=some (!(y==[])&&!d.contains 32):=fun y=>by
      rw[cn]
      cases (y==[])<;>rfl
     rw[e1,e2]
     rcases k2 with k | k | k | k | k<;>rw[k]<;>simp only[hh,g3,bi_some,hne,p1,p2]
     ·exact⟨_,_,_,rfl,rfl,fun _=>⟨rfl,la,by simp,by simp,p3.h0⟩⟩
     ·exact⟨_,_,_,rfl,rfl,fun _=>⟨rfl,la,ld,by simp,Int.le_refl 0⟩⟩
     ·exact⟨_,_,_,rfl,rfl,fun _=>⟨rfl,la,ld,by simp,Int.le_refl 0⟩⟩
     ·exact⟨_,_,_,rfl,rfl,fun _=>⟨rfl,la,by simp,ld,Int.le_refl 0⟩⟩
     exact⟨_,_,_,rfl,rfl,fun _=>⟨rfl,la,by simp,by simp,p3.h0⟩⟩
 have e4:((((L.length:Nat):Int) != 4):Bool)=true:=by rw[bne_iff_ne];omega
 have e5:decide (((L.length:Nat):Int)<4)=true:=dT (by omega)
 rw[e4,e5]
 exact⟨_,_,_,rfl,rfl,fun h=>by cases h⟩
end Go.Gk
namespace Go.Gk
theorem Ksa(c:UInt8){s:Str}(h:s.length≤1000000):Ktu s [c]=some (cut1 s c):=by
 unfold Ktu
 show gd (Nat.ble s.length 1099511627776) (some (cut1 s c))=_
 rw[Nat.ble_eq_true_of_le (by omega)]
 rfl
theorem Lih(v:Str):∀ (l:List Str) (i:Nat),∃ q,rangeM (σ:=Unit) (ρ:=Int) (fun i1 x3 s2=>bif (v:Str)==x3 then(bi (some (i1:Int)) fun v=>some (.out v)) else(some (.go ()))) i l ()=some q
 | [],i=>⟨_,rfl⟩
 | x :: l,i=>by
  obtain⟨q,h⟩:=Lih v l (i+1)
  cases hx:((v:Str)==x) with
  | true=>exact⟨.out (i:Int),by simp only[rangeM,hx];rfl⟩
  | false=>exact⟨q,by simp only[rangeM,hx];exact h⟩
theorem Lii(l:List Str)(v:Str):∃ b,Lbd l v=some b:=by
 obtain⟨q,h⟩:=Lih v l 0
 unfold Lbd Lbc
 rw[Koo h]
 cases q with
 | go s=>exact⟨_,rfl⟩
 | out r=>exact⟨_,rfl⟩
theorem Ksb(s:Str)(hs:s.length≤100000):∃ b,Lbe s=some (Lib.split s [32],b)∧Lbn s=some (Lib.split s [32],b):=by
 obtain⟨b,hb⟩:=Lii (Lib.split s [32]) []
 unfold Lbe Lbn
 rw[Koo (Kqw 32 (by omega)),Koo hb]
 exact⟨_,rfl,rfl⟩
abbrev ZS:Type:=List Kyb×Str
abbrev ZT:Type:=Bool×Str×List Kyb×Str×Int
def zone0:Kyc:=⟨[],([]:List Kyb)⟩
def lzP(n:Nat)(fl:Bool)(i5:Nat)(x7:Str)(s6:ZS):Option (LS ZS (Kyc×Int×Int)):=bi (bif ((i5:Int):Int)==0 then(bi (Lbe x7) fun y19=>bi (bif (((fl||(decide (((i5:Int):Int)<(wi ((n:Int) - 1)))))&&y19.2)&&(((y19.1.length:Int):Int)==2)) then(bi (getZ y19.1 0) fun x24=>some ((x24:Str)==[122,111,110,101])) else(some false)) fun q21=>bif q21 then(bi (getZ y19.1 1) fun x28=>some (s6.1,x28,q21)) else(some (s6.1,s6.2,q21))) else(bi (Lbl 40000 x7) fun y32=>bi (apd s6.1 [y32.1]) fun y34=>some (y34,s6.2,((fl||(decide (((i5:Int):Int)<(wi ((n:Int) - 1)))))&&y32.2)))) fun q16=>bif !q16.2.2 then(bi (some ((⟨[],([]:List Kyb)⟩:Kyc),(i5:Int),9)) fun v=>some (.out v)) else(some (.go (q16.1,q16.2.1)))
def lzR(s2:ZT):Option (LS ZT ((Bool×Str×(List Kyb)) ⊕ (Int×Bool×Bool×Kyc))):=bif !((s2.2.2.2.1:Str)==[]) then(bi (Ktu s2.2.2.2.1 [10]) fun y12=>bi (bif !y12.2.2 then(some (s2.1,s2.2.1,s2.2.2.1,true)) else(bi (Lbw 40000 y12.1 s2.1 (⟨s2.2.1,s2.2.2.1⟩:Kyc)) fun y18=>some (y18.2.1,y18.2.2.Root,y18.2.2.Records,!y18.1))) fun q14=>bif q14.2.2.2 then(bi (some (s2.2.2.2.2,false,q14.1,(⟨q14.2.1,q14.2.2.1⟩:Kyc))) fun v=>some (.out (.inr v))) else(some (.go (q14.1,q14.2.1,q14.2.2.1,y12.2.1,wi (s2.2.2.2.2+1))))) else(some (.out (.inl (s2.1,s2.2.1,s2.2.2.1))))
theorem Lij(n:Nat)(fl:Bool)(i:Nat)(x:Str)(s:ZS)(hi:i<n)(hn:n≤100000)(hx:x.length≤39000)(hs:s.1.length≤100000)(hw:(fl||decide ((i:Int)<wi ((n:Int) - 1)))=true) :
  (∃ s':ZS,lzP n fl i x s=some (.go s')∧Lbw 40000 x (decide (i=0)) ⟨s.2,s.1⟩=some (true,false,⟨s'.2,s'.1⟩)∧((s'.1=s.1∧s'.2.length≤x.length)∨∃ r,s'.1=s.1++[r]∧s'.2=s.2∧zrec r x.length))∨
  (lzP n fl i x s=some (.out (zone0,(i:Int),9))∧∃ f z,Lbw 40000 x (decide (i=0)) ⟨s.2,s.1⟩=some (false,f,z)):=by
 unfold lzP Lbw
 rw[hw]
 by_cases h0:i=0
 ·obtain⟨wb,w1,w2⟩:=Ksb x (by omega)
  obtain⟨m1,_,_⟩:=Kqs 32 x.length x (Nat.le_refl _)
  rw[show((((i:Nat):Int)==0):Bool)=true from beq_iff_eq.2 (by omega),dT h0,cond_true,cond_true,Koo w1,Koo w2]
  simp only[]
  generalize Lib.split x [32]=L at m1 ⊢
  cases wb with
  | false=>exact .inr ⟨rfl,_,_,rfl⟩
  | true=>
   by_cases h2:L.length=2
   ·match L,h2,m1 with
    | [a,b],_,m1=>
     have lb:=(m1 b (by simp)).1
     have g0:getZ [a,b] 0=some a:=rfl
     have g1:getZ [a,b] 1=some b:=rfl
     simp only[g0,g1,bi_some]
     cases ha:((a:Str)==[122,111,110,101]) with
     | false=>exact .inr ⟨rfl,_,_,rfl⟩
     | true=>exact .inl ⟨(s.1,b),rfl,rfl,.inl ⟨rfl,lb⟩⟩
   ·have e2:((((L.length:Nat):Int)==2):Bool)=false:=beq_eq_false_iff_ne.2 (by omega)
    have e3:((((L.length:Nat):Int) != 2):Bool)=true:=bne_iff_ne.2 (by omega)
    rw[e2,e3]
    exact .inr ⟨rfl,_,_,rfl⟩
 ·obtain⟨r,b,r',r1,r2,r3⟩:=Krz x hx
  rw[show((((i:Nat):Int)==0):Bool)=false from beq_eq_false_iff_ne.2 (by omega),dF h0,cond_false,cond_false,Koo r1,Koo r2,Koo (Kws (by simp;omega)),Koo (Kws (by simp;omega))]
  cases b with
  | false=>exact .inr ⟨rfl,_,_,rfl⟩
  | true=>
   obtain⟨e,hz⟩:=r3 rfl
   rw[e]
   exact .inl ⟨(s.1++[r],s.2),rfl,rfl,.inr ⟨r,rfl,rfl,hz⟩⟩
end Go.Gk
namespace Go.Gk
theorem Ksc(B:Nat)(hB:B≤39000)(n:Nat)(fl:Bool)(hn:n≤100000):∀ (m:Nat) (t:Str) (i k:Nat) (s:ZS),t.length=m→m≤B→m<k→i+(linT t).1.length=n→fl=(linT t).2→s.1.length≤i→s.2.length≤B→(∀ x∈s.1,zrec x B)→
  ∃ p q,rangeM (lzP n fl) i (linT t).1 s=some p∧loopM lzR k (decide (i=0),s.2,s.1,t,(i:Int))=some q∧((∃ (s':ZS) (f:Bool),p=.go s'∧q=.inl (f,s'.2,s'.1)∧s'.1.length≤n∧s'.2.length≤B∧∀ x∈s'.1,zrec x B)∨∃ (j:Nat) (f:Bool) (z:Kyc),p=.out (zone0,(j:Int),9)∧q=.inr ((j:Int),false,f,z))
 | m,t,i,0,s,_,_,hk,_,_,_,_,_=>absurd hk (Nat.not_lt_zero _)
 | m,t,i,k+1,s,hm,hmB,hk,hi,hfl,hs,hr,hx=>by
  rcases Kqo 10 t with h | ⟨x,t',h1,h2⟩
  ·by_cases hn0:t=[]
   ·subst hn0
    rw[Krr] at hi hfl ⊢
    have hi':i+0=n:=hi
    exact⟨.go s,.inl (decide (i=0),s.2,s.1),rfl,Kns _ rfl,.inl ⟨s,_,rfl,rfl,by omega,hr,hx⟩⟩
   ·rw[Krs hn0 h] at hi hfl ⊢
    have hi':i+1=n:=hi
    have hfl':fl=false:=hfl
    subst hfl'
    have hw:(false||decide ((i:Int)<wi ((n:Int) - 1)))=false:=by
     rw[Bool.false_or]
     exact dF (by rw[Kwl (by omega) (by omega)];omega)
    have e1:lzP n false i t s=some (.out (zone0,(i:Int),9)):=by
     unfold lzP
     rw[hw]
     by_cases h0:i=0
     ·obtain⟨wb,w1,_⟩:=Ksb t (by omega)
      rw[show((((i:Nat):Int)==0):Bool)=true from beq_iff_eq.2 (by omega),cond_true,Koo w1]
      rfl
     ·obtain⟨r,b,r',r1,_,_⟩:=Krz t (by omega)
      rw[show((((i:Nat):Int)==0):Bool)=false from beq_eq_false_iff_ne.2 (by omega),cond_false,Koo r1,Koo (Kws (by simp;omega))]
      rfl
    have e2:lzR (decide (i=0),s.2,s.1,t,(i:Int))=some (.out (.inr ((i:Int),false,decide (i=0),⟨s.2,s.1⟩))):=by
     unfold lzR
     simp only[]
     rw[Knd,dF (show ¬ t.length=0 from fun h0=>hn0 (List.eq_nil_of_length_eq_zero h0)),Koo (Ksa 10 (by omega)),Kqp h]
     rfl
    exact⟨_,_,Knh e1,Kns _ e2,.inr ⟨i,_,_,rfl,rfl⟩⟩
  ·have hl:t.length=x.length+1+t'.length:=by rw[h1];simp;omega
   rw[h1,Krt t' h2] at hi hfl ⊢
   have hi':i+((linT t').1.length+1)=n:=hi
   have hfl':fl=(linT t').2:=hfl
   have hlast:fl=false→i+1≠n:=fun hf he=>by
    have h0:(linT t').1=[]:=List.eq_nil_of_length_eq_zero (by omega)
    rcases Kqo 10 t' with g | ⟨y,t2,g1,g2⟩
    ·by_cases g0:t'=[]
     ·rw[g0,Krr,hf] at hfl';cases hfl'
     ·rw[Krs g0 g] at h0;cases h0
    ·rw[g1,Krt t2 g2] at h0;cases h0
   have hw:(fl||decide ((i:Int)<wi ((n:Int) - 1)))=true:=by
    cases hf:fl with
    | true=>rfl
    | false=>
     have:=hlast hf
     rw[Bool.false_or]
     exact dT (by rw[Kwl (by omega) (by omega)];omega)
   have e2:∀ (b f:Bool) (z:Kyc),Lbw 40000 x (decide (i=0)) ⟨s.2,s.1⟩=some (b,f,z)→lzR (decide (i=0),s.2,s.1,x++10 :: t',(i:Int))=some (if b=true then .go (f,z.Root,z.Records,t',((i+1:Nat):Int)) else .out (.inr ((i:Int),false,f,z))):=fun b f z hz=>by
    unfold lzR
    simp only[]
    rw[Knd,dF (show ¬ (x++10 :: t').length=0 by simp),Koo (Ksa 10 (by simp;omega)),Kqq t' h2]
    simp only[Bool.not_false,Bool.not_true,cond_true,cond_false]
    rw[hz]
    simp only[bi_some]
    rw[Kwl (by omega) (by omega)]
    cases b<;>rfl
   rcases Lij n fl i x s (by omega) hn (by omega) (by omega) hw with⟨s',z1,z2,z3⟩ | ⟨z1,f,z,z2⟩
   ·have e3:=e2 true false _ z2
    rw[if_pos rfl] at e3
    have hs':s'.1.length≤i+1:=by
     rcases z3 with⟨q,_⟩ | ⟨r,q,_⟩<;>rw[q]
     ·omega
     ·simp;omega
    have hr':s'.2.length≤B:=by
     rcases z3 with⟨_,q⟩ | ⟨r,_,q,_⟩
     ·omega
     ·rw[q];exact hr
    have hx':∀ y∈s'.1,zrec y B:=by
     intro y hy
     rcases z3 with⟨q,_⟩ | ⟨r,q,_,hz⟩
     ·rw[q] at hy;exact hx y hy
     ·rw[q] at hy
      rcases List.mem_append.1 hy with hy | hy
      ·exact hx y hy
      ·rw[List.mem_singleton.1 hy]
       obtain⟨a1,a2,a3,a4⟩:=hz
       exact⟨by omega,by omega,by omega,a4⟩
    obtain⟨p,q,p1,q1,pq⟩:=Ksc B hB n fl hn t'.length t' (i+1) k s' rfl (by omega) (by omega) (by omega) hfl' hs' hr' hx'
    rw[show decide (i+1=0)=false from dF (by omega)] at q1
    exact⟨p,q,(Kni z1).trans p1,(Knr _ e3).trans q1,pq⟩
   ·have e3:=e2 false f z z2
    rw[if_neg (by decide)] at e3
    exact⟨_,_,Knh z1,Kns _ e3,.inr ⟨i,f,z,rfl,rfl⟩⟩
theorem Ksd(text:Str):Lbm 40000 text=bif decide (((text.length:Int):Int)>200000) then(some ((⟨[],([]:List Kyb)⟩:Kyc),0,2)) else(bi (Lbb text) fun y3=>bi (rangeM (lzP y3.1.length y3.2) 0 y3.1 (([]:List Kyb),[])) fun q=>goI q fun a10=>bif ((y3.1.length:Int):Int)==0 then(some ((⟨[],([]:List Kyb)⟩:Kyc),0,9)) else(bi (Kzt 40000 (⟨a10.2,a10.1⟩:Kyc)) fun y42=>bif (y42:Int) != 0 then(some ((⟨[],([]:List Kyb)⟩:Kyc),0,y42)) else(some ((⟨a10.2,a10.1⟩:Kyc),0,0)))):=rfl
theorem Kse(text:Str)(f:Bool)(z:Kyc):Lbx 40000 text f z=bi (loopM lzR 40000 (f,z.Root,z.Records,text,0)) fun q=>orI q fun a6=>some (0,true,a6.1,(⟨a6.2.1,a6.2.2⟩:Kyc)):=rfl
theorem Ksf(L:List Str):(linL L).1.length≤L.length:=by
 unfold linL
 split
 ·simp
 exact Nat.le_refl _
theorem Ksg{t:Str}(h:t≠[]):1≤(linT t).1.length:=by
 rcases Kqo 10 t with g | ⟨y,t2,g1,g2⟩
 ·rw[Krs h g];simp
 rw[g1,Krt t2 g2];simp
theorem Ksh(text:Str)(h:text.length≤38000):∃ z e j,Lbm 40000 text=some (z,j,e)∧Lby 40000 text=some (z,j,e):=by
 have hle:(linT text).1.length≤text.length+1:=Nat.le_trans (Ksf _) (Kqs 10 text.length text (Nat.le_refl _)).2.2
 rw[Ksd]
 unfold Lby
 rw[dF (show ¬ ((text.length:Int)>200000) by omega),cond_false,cond_false,Koo (Kru text (by omega))]
 by_cases ht:text=[]
 ·subst ht
  rw[Krr]
  exact⟨zone0,9,0,rfl,rfl⟩
 have hp:=Ksg ht
 rw[Knd,dF (show ¬ text.length=0 from fun h0=>ht (List.eq_nil_of_length_eq_zero h0)),cond_false,Kse]
 obtain⟨p,q,p1,q1,pq⟩:=Ksc text.length (by omega) (linT text).1.length (linT text).2 (by omega) text.length text 0 40000 ([],[]) rfl (Nat.le_refl _) (by omega) (by omega) rfl (by simp) (by simp) fun x hx=>by cases hx
 rw[show((0:Nat):Int)=0 from rfl,show decide ((0:Nat)=0)=true from rfl] at q1
 rw[Koo p1,q1,bi_some]
 rcases pq with⟨s,f,rfl,rfl,hl,hr,hx⟩ | ⟨j,f,z,rfl,rfl⟩
 ·obtain⟨e,c1,c2,_⟩:=Lia ⟨s.2,s.1⟩ ⟨by show s.2.length≤39000;omega,by show s.1.length≤100000;omega,fun r hm=>by
   obtain⟨a1,a2,a3,a4⟩:=hx r hm
   exact⟨by omega,by omega,by omega,a4⟩⟩
  have hz:((((linT text).1.length:Nat):Int)==0)=false:=beq_eq_false_iff_ne.2 (by omega)
  simp only[goI,orI,bi_some,Bool.not_true,cond_false,hz]
  rw[Koo c1,Koo c2]
  cases (e != 0) with
  | true=>exact⟨_,_,_,rfl,rfl⟩
  | false=>exact⟨_,_,_,rfl,rfl⟩
 exact⟨_,_,_,rfl,rfl⟩
end Go.Gk
namespace Go.Gk
theorem outK(n a b:Int):Kzm n a b=some (!decide (a≤n∧n≤b)):=by
 unfold Kzm
 congr 1
 rw[Bool.eq_iff_iff]
 simp
theorem no5{a b:Int}{P:Prop}(h:(some a:Option Int)=some b)(hn:a≠b):P:=absurd (oSi h) hn
theorem rec0{r:Kyb}(h:okG r)(h0:Kzn 40000 r=some 0):ZZ.kindB r.Kind=true∧(((r.Kind==1)||(r.Kind==28))=true→Kzj r.Addr=some 0)∧0≤r.Life∧r.Life≤1000000:=by
 obtain⟨h1,h2,h3,h4⟩:=h
 obtain⟨ab,a1,a2⟩:=ZZ.Ktc r.Addr h4
 have p1:=Lim r.Words h3
 have hle:=ZZ.Lgr r.Name [42,46]
 have d1:=ZZ.Lgx 39998 (Lib.trimPrefix r.Name [42,46]) (by omega)
 have d3:=ZZ.Lgx 39998 r.To (by omega)
 have hb:Kzg r.Name=some (Lib.trimPrefix r.Name [42,46]):=rfl
 have hha:Kzi r.Kind=some ((r.Kind==1)||(r.Kind==28)):=rfl
 have hhn:Kzk r.Kind=some ((r.Kind==5)||(r.Kind==12)):=rfl
 unfold Kzn at h0
 rw[hb,hha,hhn] at h0
 simp only[bi_some] at h0
 rw[d1,d3,ZZ.Ktd,a1,p1,outK] at h0
 simp only[bi_some] at h0
 cases hx1:((ZZ.domF (Lib.trimPrefix r.Name [42,46]) != 0)||decide ((r.Name.length:Int)>253)) with
 | true=>rw[hx1] at h0;exact no5 h0 (by decide)
 | false=>
 rw[hx1,cond_false] at h0
 cases hk:ZZ.kindB r.Kind with
 | false=>rw[hk] at h0;exact no5 h0 (by decide)
 | true=>
 rw[hk,Bool.not_true,cond_false] at h0
 refine⟨rfl,?_,?_⟩
 ·intro ha
  rw[ha] at h0
  simp only[cond_true] at h0
  cases hs : !(r.Addr.Six==(r.Kind==28)) with
  | true=>rw[hs] at h0;exact no5 h0 (by decide)
  | false=>
   rw[hs] at h0
   simp only[cond_false,bi_some] at h0
   cases hab:(ab != 0) with
   | true=>rw[hab] at h0;exact no5 h0 (by decide)
   | false=>rw[a1,show ab=0 from by simpa using hab]
 by_cases hl:0≤r.Life∧r.Life≤1000000
 ·exact hl
 rw[dF hl] at h0
 have hk':r.Kind=1∨r.Kind=5∨r.Kind=12∨r.Kind=16∨r.Kind=28:=by simpa [ZZ.kindB] using hk
 exfalso
 generalize (ZZ.domF r.To != 0)=x3 at h0
 generalize (ab != 0)=x4 at h0
 generalize (r.Words==[])=x5 at h0
 generalize plB r.Words=pl at h0
 generalize decide ((r.Words.length:Int)>200)=x9 at h0
 generalize (r.To==[])=x6 at h0
 generalize ((r.Addr.Six==false)&&((r.Addr.Hi==0)&&((r.Addr.Lo==0)&&true)))=x7 at h0
 generalize r.Addr.Six=x8 at h0
 rcases hk' with e | e | e | e | e<;>rw[e] at h0<;>cases x3<;>cases x4<;>cases x6<;>cases x7<;>cases x8<;>cases pl<;>cases x5<;>cases x9<;>exact no5 h0 (by decide)
def wordOf(k:Int):Str:=if k=1 then[97] else if k=5 then[97,108,105,97,115] else if k=12 then[98,97,99,107] else if k=16 then[119,111,114,100,115] else[97,97,97,97]
def bodyOf(r:Kyb):Str:=if r.Kind=1∨r.Kind=28 then addrT r.Addr else r.To++r.Words
def rowZ(r:Kyb):Str:=r.Name++[32]++wordOf r.Kind++[32]++Lib.itoa r.Life++[32]++bodyOf r++[10]
structure GoodZ(r:Kyb):Prop where
 ad:AOk r.Addr
 kd:r.Kind=1∨r.Kind=5∨r.Kind=12∨r.Kind=16∨r.Kind=28
 ca:r.Kind=1∨r.Kind=28→Kzj r.Addr=some 0
 l0:0≤r.Life
 l1:r.Life≤1000000
 nm:r.Name.length≤300
 tw:r.To.length+r.Words.length≤600
theorem Kso(k:Int):(wordOf k).length≤5:=by
 unfold wordOf
 split
 ·decide
 split
 ·decide
 split
 ·decide
 split<;>decide
theorem Ksp:∀ (k n:Nat),n<10 ^ (k+1)→(Lib.decDigits n).length≤k+1
 | 0,n,h=>by
  rw[Lib.decDigits,dif_pos (by simpa using h)]
  simp
 | k+1,n,h=>by
  rw[Lib.decDigits]
  split
  ·simp
  have h2:n / 10<10 ^ (k+1):=Nat.div_lt_of_lt_mul (by rw[Nat.mul_comm,←Nat.pow_succ];exact h)
  have:=Ksp k (n / 10) h2
  simp
  omega
theorem GoodZ.li{r:Kyb}(h:GoodZ r):(Lib.itoa r.Life).length≤7:=by
 have h0:=h.l0;have h1:=h.l1
 rw[show r.Life=((r.Life.toNat:Nat):Int) by omega,Kqb]
 exact Ksp 6 _ (by omega)
theorem GoodZ.body{r:Kyb}(h:GoodZ r):(bodyOf r).length≤600:=by
 unfold bodyOf
 split
 ·have:=Koi r.Addr
  omega
 have:=h.tw
 simp;omega
theorem GoodZ.len{r:Kyb}(h:GoodZ r):(rowZ r).length≤920:=by
 have h1:=h.li;have h2:=h.body;have h3:=Kso r.Kind;have h4:=h.nm
 unfold rowZ
 simp
 omega
theorem Ksq{b s:Str}(h:b.length+s.length≤1000000):Kzu b s=some ((s.length:Int),b++s):=by
 unfold Kzu
 rw[show Kje b=some () from rfl,bi_some,Koo (Kws (by omega))]
def rzP(i11:Nat)(x13:Kyb)(s12:List UInt8):Option (List UInt8):=bi (catZ x13.To x13.Words) fun y22=>bi (Kzi x13.Kind) fun y24=>bi (bif y24 then(bi (Kzy 40000 x13.Addr) fun y29=>some y29.1) else(some y22)) fun q26=>bi (catZ x13.Name [32]) fun y32=>bi (Kzz x13.Kind) fun y34=>bi (catZ y32 y34) fun y36=>bi (catZ y36 [32]) fun y38=>bi (Kua x13.Life) fun y40=>bi (catZ y38 y40) fun y42=>bi (catZ y42 [32]) fun y44=>bi (catZ y44 q26) fun y46=>bi (catZ y46 [10]) fun y48=>bi (Kzu s12 y48) fun y50=>some y50.2
def rzR(i7:Nat)(x9:Kyb)(s8:List UInt8):Option (List UInt8):=bi (catZ x9.To x9.Words) fun y18=>bi (bif (((x9.Kind:Int)==1)||((x9.Kind:Int)==28)) then(bi (Lau 40000 x9.Addr) fun y23=>some y23) else(some y18)) fun q20=>bi (catZ x9.Name [32]) fun y26=>bi Lav fun y28=>bi Lae fun y30=>bi (Laf y30 x9.Kind) fun y32=>bi (getZ y28 y32) fun x34=>bi (catZ y26 x34) fun y36=>bi (catZ y36 [32]) fun y38=>bi (Kua x9.Life) fun y40=>bi (catZ y38 y40) fun y42=>bi (catZ y42 [32]) fun y44=>bi (catZ y44 q20) fun y46=>bi (catZ y46 [10]) fun y48=>bi (Kzu s8 y48) fun y50=>some y50.2
theorem Lis{r:Kyb}(h:GoodZ r)(s:Str)(hs:s.length≤100000):(bi (catZ (r.Name++[32]) (wordOf r.Kind)) fun y36=>bi (catZ y36 [32]) fun y38=>bi (Kua r.Life) fun y40=>bi (catZ y38 y40) fun y42=>bi (catZ y42 [32]) fun y44=>bi (catZ y44 (bodyOf r)) fun y46=>bi (catZ y46 [10]) fun y48=>bi (Kzu s y48) fun y50=>some y50.2)=some (s++rowZ r):=by
 have h1:=h.li;have h2:=h.body;have h3:=Kso r.Kind;have h4:=h.nm;have h5:=h.l0;have h6:=h.l1
 rw[Koo (Kra (by simp;omega)),Koo (Kra (by simp;omega)),Koo (Kqg (by omega) (by omega)),Koo (Kra (by simp;omega)),Koo (Kra (by simp;omega)),Koo (Kra (by simp;omega)),Koo (Kra (by simp;omega)),Koo (Ksq (by simp;omega))]
 rfl
theorem Ksr{k:Int}(h:k=1∨k=5∨k=12∨k=16∨k=28):Kzz k=some (wordOf k)∧∃ j,Laf [1,5,12,16,28] k=some j∧getZ ([[97],[97,108,105,97,115],[98,97,99,107],[119,111,114,100,115],[97,97,97,97]]:List Str) j=some (wordOf k):=by
 rcases h with rfl | rfl | rfl | rfl | rfl<;>exact⟨rfl,_,rfl,rfl⟩
theorem Kss(k:Int):(((k:Int)==1)||((k:Int)==28))=decide (k=1∨k=28):=by rw[Bool.eq_iff_iff];simp
theorem Kst{r:Kyb}(h:GoodZ r)(i:Nat)(s:Str)(hs:s.length≤100000):rzP i r s=some (s++rowZ r):=by
 have h4:=h.nm;have h5:=h.tw
 have hbody:(bif decide (r.Kind=1∨r.Kind=28) then(bi (Kzy 40000 r.Addr) fun y29=>some y29.1) else(some (r.To++r.Words)))=some (bodyOf r):=by
  unfold bodyOf
  by_cases hk:r.Kind=1∨r.Kind=28
  ·rw[dT hk,if_pos hk,cond_true]
   unfold Kzy
   rw[Koo (h.ca hk),show(((0:Int) != 0):Bool)=false from rfl,cond_false,Koo (Kpa h.ad),bi_some]
  rw[dF hk,if_neg hk,cond_false]
 unfold rzP
 rw[Koo (Kra (by omega)),show Kzi r.Kind=some (((r.Kind:Int)==1)||((r.Kind:Int)==28)) from rfl,bi_some,Kss,Koo hbody,Koo (Kra (by simp;omega)),Koo (Ksr h.kd).1]
 exact Lis h s hs
theorem Ksu{r:Kyb}(h:GoodZ r)(i:Nat)(s:Str)(hs:s.length≤100000):rzR i r s=some (s++rowZ r):=by
 have h4:=h.nm;have h5:=h.tw
 have hbody:(bif decide (r.Kind=1∨r.Kind=28) then(bi (Lau 40000 r.Addr) fun y23=>some y23) else(some (r.To++r.Words)))=some (bodyOf r):=by
  unfold bodyOf
  by_cases hk:r.Kind=1∨r.Kind=28
  ·rw[dT hk,if_pos hk,cond_true,Koo (Kou h.ad)]
  rw[dF hk,if_neg hk,cond_false]
 obtain⟨_,j,j1,j2⟩:=Ksr h.kd
 unfold rzR
 rw[Koo (Kra (by omega)),Kss,Koo hbody,Koo (Kra (by simp;omega))]
 rw[show Lav=some [[97],[97,108,105,97,115],[98,97,99,107],[119,111,114,100,115],[97,97,97,97]] from rfl,bi_some,show Lae=some [1,5,12,16,28] from rfl,bi_some,Koo j1,Koo j2]
 exact Lis h s hs
theorem Ksv{f:Nat→Kyb→List UInt8→Option (List UInt8)}(hf:∀ i x s,GoodZ x→s.length≤100000→f i x s=some (s++rowZ x)):∀ (l:List Kyb) (i:Nat) (s:Str),(∀ x∈l,GoodZ x)→s.length+920 * l.length≤100000→rangeF f i l s=some (s++l.flatMap rowZ)
 | [],i,s,_,_=>by simp[rangeF]
 | x :: l,i,s,h,hs=>by
  have hs':s.length+920 * (l.length+1)≤100000:=hs
  have hx:=h x (by simp)
  have h1:=hf i x s hx (by omega)
  have h2:=hx.len
  have h3:=Ksv hf l (i+1) (s++rowZ x) (fun y hy=>h y (by simp[hy])) (by simp;omega)
  simp only[rangeF,h1,bi_some]
  rw[h3]
  simp
theorem Ksw:∀ l:List Kyb,(∀ x∈l,GoodZ x)→(l.flatMap rowZ).length≤920 * l.length
 | [],_=>by simp
 | x :: l,h=>by
  have h1:=(h x (by simp)).len
  have h2:=Ksw l fun y hy=>h y (by simp[hy])
  rw[List.flatMap_cons,List.length_append,List.length_cons]
  omega
end Go.Gk
