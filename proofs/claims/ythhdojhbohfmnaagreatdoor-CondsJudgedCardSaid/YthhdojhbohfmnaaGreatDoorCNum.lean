import Derived.Test.YthhdojhbohfmnaaGreatDoorTLoop
import Derived.Lib.SplitLaws
set_option linter.all false
set_option maxRecDepth 100000
namespace Go.Gk
theorem Kcb(n a b:Int):Lft n a b=some (decide (a≤n∧n≤b)):=by
 unfold Lft
 congr 1
 rw[Bool.eq_iff_iff]
 simp
theorem u64N(x:Int):0≤IntKind.u64.wrap x:=Int.emod_nonneg _ (by decide)
theorem u64L(x:Int):IntKind.u64.wrap x<18446744073709551616:=Int.emod_lt_of_pos _ (by decide)
theorem Kcc(p:UInt8→Bool):∀ l:Str,l.dropWhile p=[] ↔ ∀ x∈l,p x=true
 | []=>by simp
 | x :: r=>by
  rw[List.dropWhile_cons]
  cases h:p x with
  | true=>simp[h,Kcc p r]
  | false=>simp[h]
theorem Kcd(t cs:Str):(Lib.trimS t cs==[])=t.all fun c=>cs.contains c:=by
 rw[Bool.eq_iff_iff,beq_iff_eq,lAe]
 unfold Lib.trimS Lib.trimLeftS
 rw[Kcc]
 unfold Lib.trimRightS
 constructor
 ·intro h x hx
  have hs:t.reverse=t.reverse.takeWhile (cs.contains ·)++t.reverse.dropWhile (cs.contains ·):=(List.takeWhile_append_dropWhile).symm
  have hx':x∈t.reverse:=List.mem_reverse.2 hx
  rw[hs,List.mem_append] at hx'
  rcases hx' with hx' | hx'
  ·have:=lAe.1 (List.all_takeWhile (p:=(cs.contains ·)) (l:=t.reverse)) x hx'
   exact this
  exact h x (List.mem_reverse.2 hx')
 intro h x hx
 have:=(List.dropWhile_sublist (cs.contains ·)).subset (List.mem_reverse.1 hx)
 exact h x (List.mem_reverse.1 this)
def dgs:Str:=[48,49,50,51,52,53,54,55,56,57]
def isD(c:UInt8):Bool:=decide (48≤c.toNat)&&decide (c.toNat≤57)
theorem Kce(c:UInt8):dgs.contains c=isD c:=by
 have key:∀ n:Fin 256,dgs.contains (UInt8.ofNat n.val)=isD (UInt8.ofNat n.val):=by decide +kernel
 have:=key ⟨c.toNat,c.toNat_lt⟩
 simpa only[UInt8.ofNat_toNat] using this
theorem Kcf{c:UInt8}(h:isD c=true):∃ d,d<10∧Lib.digitVal c=some d∧c=UInt8.ofNat (48+d)∧(c==45)=false∧(c==43)=false∧(d=0 ↔ c=48):=by
 have key:∀ n:Fin 256,isD (UInt8.ofNat n.val)=true→(UInt8.ofNat n.val).toNat - 48<10∧Lib.digitVal (UInt8.ofNat n.val)=some ((UInt8.ofNat n.val).toNat - 48)∧UInt8.ofNat n.val=UInt8.ofNat (48+((UInt8.ofNat n.val).toNat - 48))∧(UInt8.ofNat n.val==45)=false∧(UInt8.ofNat n.val==43)=false∧((UInt8.ofNat n.val).toNat - 48=0 ↔ UInt8.ofNat n.val=48):=by decide +kernel
 have:=key ⟨c.toNat,c.toNat_lt⟩
 simp only[UInt8.ofNat_toNat] at this
 exact⟨_,this h⟩
theorem Kcg:∀ (t:Str) (acc:Nat),t.all isD=true→∃ n,Lib.decFrom acc t=some n∧n<(acc+1) * 10 ^ t.length∧(1≤acc→Lib.decDigits n=Lib.decDigits acc++t)∧acc≤n
 | [],acc,_=>⟨acc,rfl,by simp,fun _=>by simp,Nat.le_refl _⟩
 | c :: t,acc,h=>by
  rw[List.all_cons,Bool.and_eq_true] at h
  obtain⟨d,d1,d2,d3,_⟩:=Kcf h.1
  obtain⟨n,n1,n2,n3,n4⟩:=Kcg t (acc * 10+d) h.2
  refine⟨n,by simp only[Lib.decFrom,d2,n1],nLl n2 ?_,fun ha=>?_,by omega⟩
  ·rw[List.length_cons,Nat.pow_succ,Nat.mul_comm (10 ^ t.length),←Nat.mul_assoc]
   exact Nat.mul_le_mul_right _ (by omega)
  rw[n3 (by omega)]
  have:Lib.decDigits (acc * 10+d)=Lib.decDigits acc++[c]:=by
   rw[Lib.decDigits,dif_neg (by omega),show(acc * 10+d) / 10=acc by omega,show(acc * 10+d) % 10=d by omega,d3]
  rw[this,List.append_assoc];rfl
theorem Kch:∀ n:Nat,1≤n→(Lib.decDigits n)[0]?≠some 48:=by
 intro n
 induction n using Nat.strongRecOn with
 | _ n ih=>
  intro h
  by_cases h10:n<10
  ·rw[Lib.decDigits,dif_pos h10]
   have:∀ m:Fin 10,1≤m.val→([UInt8.ofNat (48+m.val)]:Str)[0]?≠some 48:=by decide
   exact this ⟨n,h10⟩ h
  rw[Lib.decDigits,dif_neg h10]
  have hne:Lib.decDigits (n / 10)≠[]:=by
   rw[Lib.decDigits];split
   ·simp
   simp
  rw[gAl (List.length_pos_iff.2 hne)]
  exact ih (n / 10) (by omega) (by omega)
theorem Kci{t:Str}(hn:t≠[])(h:t.all isD=true):∃ n:Nat,Lib.decNat t=some n∧n<10 ^ t.length∧(Lib.decDigits n=t ↔ (t.length=1∨t[0]?≠some 48))∧(n=0→t[0]?=some 48):=by
 match t,hn,h with
 | c :: r,_,h=>
  rw[List.all_cons,Bool.and_eq_true] at h
  obtain⟨d,d1,d2,d3,_,_,d6⟩:=Kcf h.1
  obtain⟨n,n1,n2,n3,n4⟩:=Kcg r d h.2
  have e0:Lib.decNat (c :: r)=some n:=by
   unfold Lib.decNat
   rw[if_neg (by simp)]
   simp only[Lib.decFrom,d2,Nat.zero_mul,Nat.zero_add]
   exact n1
  have hlt:n<10 ^ (c :: r).length:=by
   rw[List.length_cons,Nat.pow_succ,Nat.mul_comm]
   exact nLl n2 (Nat.mul_le_mul_right _ (by omega))
  by_cases hd:d=0
  ·have hc:=d6.1 hd
   subst hc
   subst hd
   refine⟨n,e0,hlt,?_,fun _=>rfl⟩
   match r with
   | []=>
    simp only[Lib.decFrom] at n1
    cases n1
    exact⟨fun _=>.inl rfl,fun _=>by decide +kernel⟩
   | x :: r=>
    refine⟨fun he=>?_,fun h=>?_⟩
    ·exfalso
     by_cases hn0:n=0
     ·subst hn0
      have:=congrArg List.length he
      rw[show Lib.decDigits 0=[48] by decide +kernel] at this
      simp at this
     have:=Kch n (by omega)
     rw[he] at this
     exact this rfl
    rcases h with h | h
    ·simp at h
    exact absurd rfl h
  refine⟨n,e0,hlt,?_,fun h0=>by omega⟩
  have:Lib.decDigits n=c :: r:=by
   rw[n3 (by omega),Lib.decDigits,dif_pos d1,←d3];rfl
  refine⟨fun _=>.inr ?_,fun _=>this⟩
  intro h48
  have:c=48:=by simpa using h48
  exact hd (d6.2 this)
theorem Kcj(u:Nat):Lib.itoa (u:Int)=Lib.decDigits u:=by unfold Lib.itoa;rw[if_neg (by omega)];simp
theorem Kck(u:Nat)(h:1≤u):Lib.itoa (-(u:Int))=45 :: Lib.decDigits u:=by unfold Lib.itoa;rw[if_pos (by omega)];simp
def numB(s:Str)(most:Nat):Bool:=!(Lib.trimPrefix s [45]==[])&&(decide ((Lib.trimPrefix s [45]).length≤most)&&((Lib.trimPrefix s [45]).all isD&&!(((Lib.trimPrefix s [45])[0]?==some 48)&&!(s==[48]))))
def numV(s:Str):Int:=(Lib.atoi s).getD 0
theorem Lmo(s:Str):(Lib.trimPrefix s [45]=s∧s[0]?≠some 45)∨s=45 :: Lib.trimPrefix s [45]:=by
 unfold Lib.trimPrefix
 match s with
 | []=>exact .inl ⟨rfl,by simp⟩
 | c :: r=>
  by_cases hc:c=45
  ·subst hc;exact .inr rfl
  refine .inl ⟨?_,by simpa using hc⟩
  simp[Lib.hasPrefix,hc]
  intro h
  exact absurd h.symm hc
theorem Kcl{s:Str}{m:Nat}(hm:m≤9)(hne:Lib.trimPrefix s [45]≠[])(hl:(Lib.trimPrefix s [45]).length≤m)(hd:(Lib.trimPrefix s [45]).all isD=true) :
  ∃ n:Int,Lib.atoi s=some n∧-(10 ^ m:Nat)<n∧n<(10 ^ m:Nat)∧(Lib.itoa n=s ↔ ¬ ((Lib.trimPrefix s [45])[0]?=some 48∧s≠[48])):=by
 obtain⟨n,n1,n2,n3,n4⟩:=Kci hne hd
 have hp:n<10 ^ m:=nLl n2 (Nat.pow_le_pow_right (by decide) hl)
 rcases Lmo s with⟨h1,h2⟩ | h1
 ·rw[h1] at hne hl hd n1 n3 n4 ⊢
  have ha:Lib.atoi s=some (n:Int):=by
   match s,hne,hd,h2,n1 with
   | c :: r,_,hd,_,n1=>
    rw[List.all_cons,Bool.and_eq_true] at hd
    obtain⟨_,_,_,_,e1,e2,_⟩:=Kcf hd.1
    simp only[Lib.atoi,e1,e2,n1]
    rfl
  refine⟨n,ha,by omega,by omega,?_⟩
  rw[Kcj,n3]
  constructor
  ·rintro(h | h) ⟨h0,h48⟩
   ·match s,h with
    | [c],_=>simp at h0;subst h0;exact h48 rfl
   ·exact h h0
  ·intro h
   by_cases h0:s[0]?=some 48
   ·have:s=[48]:=by
     by_cases hs:s=[48]
     ·exact hs
     ·exact absurd ⟨h0,hs⟩ h
    rw[this];exact .inl rfl
   ·exact .inr h0
 ·generalize Lib.trimPrefix s [45]=t at *
  subst h1
  have ha:Lib.atoi (45 :: t)=some (-(n:Int)):=by
   simp only[Lib.atoi,n1]
   rfl
  refine⟨-(n:Int),ha,by omega,by omega,?_⟩
  by_cases hn0:n=0
  ·subst hn0
   refine⟨fun h=>?_,fun h=>absurd ⟨n4 rfl,by simp⟩ h⟩
   rw[show Lib.itoa (-((0:Nat):Int))=[48] by decide +kernel] at h
   simp at h
  ·rw[Kck n (by omega)]
   constructor
   ·intro h
    rintro⟨h0,_⟩
    have:Lib.decDigits n=t:=by simpa using h
    have h2:=Kch n (by omega)
    rw[this] at h2
    exact h2 h0
   ·intro h
    have:t[0]?≠some 48:=fun h0=>h ⟨h0,by simp⟩
    rw[n3.2 (.inr this)]
theorem Kcm{s:Str}{m:Nat}(hm:m≤9)(hl:(Lib.trimPrefix s [45]).length≤m){n:Int}(h:Lib.atoi s=some n):Kyg s=some n:=by
 unfold Kyg
 have:s.length≤18:=by
  rcases Lmo s with⟨h1,_⟩ | h1
  ·rw[h1] at hl;omega
  have:=congrArg List.length h1;simp at this;omega
 rw[Nat.ble_eq_true_of_le this]
 exact h
theorem Kcn(s cs:Str)(hs:s.length≤1000000)(hc:(Nat.blt cs.length 4294967281&&cs.all fun b=>Nat.blt b.toNat 128)=true):Lfu s cs=some (s.all fun c=>cs.contains c):=by
 unfold Lfu Kxy
 rw[Nat.ble_eq_true_of_le (show s.length≤1099511627776 by omega),hc]
 show some (Lib.trimS s cs==[])=_
 rw[Kcd]
def dLoop(y1:Str)(s12:Int):Option (LS Int (Unit ⊕ (Int×Bool))):=bif decide ((s12:Int)<(y1.length:Int)) then(bi (getZ y1 s12) fun c22=>bi (bif decide (((c22.toNat:Int):Int)<48) then(some true) else(bi (getZ y1 s12) fun c28=>some (decide (((c28.toNat:Int):Int)>57)))) fun q24=>bif q24 then(bi (some (0,false)) fun v=>some (.out (.inr v))) else(some (.go (wi (s12+1))))) else(some (.out (.inl ())))
theorem Kco(y:Str)(hl:y.length≤100):∀ (n k i:Nat),n=y.length - i→i≤y.length→n<k→loopM (dLoop y) k (i:Int)=some (if (y.drop i).all isD then .inl () else .inr (0,false))
 | n,0,i,_,_,h=>absurd h (Nat.not_lt_zero _)
 | n,k+1,i,hn,hi,hk=>by
  by_cases he:i<y.length
  ·have hg:getZ y (i:Int)=some y[i]:=Lcb (gGe he)
   have hdr:y.drop i=y[i] :: y.drop (i+1):=List.drop_eq_getElem_cons he
   have hstep:dLoop y (i:Int)=some (if isD y[i] then .go ((i+1:Nat):Int) else .out (.inr (0,false))):=by
    unfold dLoop
    rw[dT (show(i:Int)<(y.length:Int) by omega)]
    simp only[cond_true,hg,bi_some]
    unfold isD
    by_cases h1:48≤y[i].toNat
    ·rw[dF (show ¬ (y[i].toNat:Int)<48 by omega),dT h1]
     simp only[cond_false,bi_some,Bool.true_and]
     by_cases h2:y[i].toNat≤57
     ·rw[dF (show ¬ (y[i].toNat:Int)>57 by omega),dT h2]
      simp only[cond_false,if_true]
      rw[Law (by omega) (by omega)]
      rfl
     rw[dT (show(y[i].toNat:Int)>57 by omega),dF h2]
     rfl
    rw[dT (show(y[i].toNat:Int)<48 by omega),dF h1]
    rfl
   rw[hdr,List.all_cons]
   simp only[loopM,hstep]
   cases hD:isD y[i] with
   | false=>rfl
   | true=>
    simp only[if_true,Bool.true_and]
    exact Kco y hl (n - 1) k (i+1) (by omega) (by omega) (by omega)
  have:y.drop i=[]:=List.drop_eq_nil_of_le (by omega)
  rw[this]
  simp only[loopM]
  unfold dLoop
  rw[dF (show ¬ (i:Int)<(y.length:Int) by omega)]
  rfl
theorem Kcp(k:Nat)(s:Str)(most:Int):Lha k s most=bi (Kxv s [45]) fun y1=>bi (bif (((y1:Str)==[])||(decide (((y1.length:Int):Int)>most))) then(some true) else(bi (getZ y1 0) fun c7=>some ((((c7.toNat:Int):Int)==48)&&(!((s:Str)==[48]))))) fun q3=>bif q3 then(some (0,false)) else(bi (loopM (dLoop y1) k 0) fun q=>orI q fun a16=>bi (Kyg s) fun y35=>some (y35,true)):=rfl
theorem numP(k:Nat)(hk:100<k)(s:Str)(m:Nat)(hm:m≤9):∃ n,Lha k s (m:Int)=some (n,numB s m)∧(numB s m=true→n=numV s):=by
 rw[Kcp]
 unfold numB
 rw[show Kxv s [45]=some (Lib.trimPrefix s [45]) from rfl,bi_some]
 cases h1:(Lib.trimPrefix s [45]==[]) with
 | true=>exact⟨0,rfl,fun h=>by simp at h⟩
 | false=>
  have hne:Lib.trimPrefix s [45]≠[]:=by simpa using h1
  by_cases hl:(Lib.trimPrefix s [45]).length≤m
  ·rw[dF (show ¬ ((Lib.trimPrefix s [45]).length:Int)>(m:Int) by omega),dT hl]
   simp only[Bool.or_self,cond_false]
   have h0:∃ c,(Lib.trimPrefix s [45])[0]?=some c:=⟨_,gGe (List.length_pos_iff.2 hne)⟩
   obtain⟨c,hc⟩:=h0
   rw[show(0:Int)=((0:Nat):Int) from rfl,Lcb hc,bi_some,bi_some,hc]
   have hc48:(((c.toNat:Int))==48)=((some c:Option UInt8)==some 48):=by
    rw[Bool.eq_iff_iff]
    simp only[beq_iff_eq,Option.some.injEq]
    constructor
    ·intro h;exact UInt8.toNat_inj.1 (by show c.toNat=48;omega)
    intro h;subst h;rfl
   rw[hc48]
   cases h3:((some c:Option UInt8)==some 48&&!(s==[48])) with
   | true=>exact⟨0,by simp,fun h=>by simp at h⟩
   | false=>
    simp only[cond_false]
    rw[Kco (Lib.trimPrefix s [45]) (by omega) _ k 0 rfl (Nat.zero_le _) (by omega),List.drop_zero]
    cases h2:(Lib.trimPrefix s [45]).all isD with
    | false=>exact⟨0,rfl,fun h=>by simp at h⟩
    | true=>
     obtain⟨n,n1,n2,n3,n4⟩:=Kcl hm hne hl h2
     refine⟨n,?_,fun _=>by simp[numV,n1]⟩
     simp only[if_true,bi_some,orI,Kcm hm hl n1]
     rfl
  rw[dT (show((Lib.trimPrefix s [45]).length:Int)>(m:Int) by omega),dF hl]
  exact⟨0,rfl,fun h=>by simp at h⟩
theorem Kcq{s:Str}{m:Nat}(hm:m≤9)(h:numB s m=true):Lib.itoa (numV s)=s∧-(10 ^ m:Nat)<numV s∧numV s<(10 ^ m:Nat):=by
 unfold numB at h
 simp only[Bool.and_eq_true,Bool.not_eq_true',beq_eq_false_iff_ne,decide_eq_true_eq] at h
 obtain⟨h1,h2,h3,h4⟩:=h
 obtain⟨n,n1,n2,n3,n4⟩:=Kcl hm h1 h2 h3
 have hv:numV s=n:=by simp[numV,n1]
 rw[hv]
 refine⟨n4.2 fun ⟨a,b⟩=>?_,n2,n3⟩
 simp[a,b] at h4
def lows:Str:=[97,98,99,100,101,102,103,104,105,106,107,108,109,110,111,112,113,114,115,116,117,118,119,120,121,122]
def keys:Str:=[97,98,99,100,101,102,103,104,105,106,107,108,109,110,111,112,113,114,115,116,117,118,119,120,121,122,48,49,50,51,52,53,54,55,56,57,45,95]
def kB(i:Int)(c:UInt8):Bool:=(((decide (((c.toNat:Int):Int)≥97))&&(decide (((c.toNat:Int):Int)≤122)))||((decide ((i:Int)>0))&&((((decide (((c.toNat:Int):Int)≥48))&&(decide (((c.toNat:Int):Int)≤57)))||(((c.toNat:Int):Int)==45))||(((c.toNat:Int):Int)==95))))
theorem Kcr:∀ c:Fin 256,kB 0 (UInt8.ofNat c.val)=lows.contains (UInt8.ofNat c.val)∧kB 1 (UInt8.ofNat c.val)=keys.contains (UInt8.ofNat c.val)∧(lows.contains (UInt8.ofNat c.val)=true→keys.contains (UInt8.ofNat c.val)=true):=by decide +kernel
theorem Kcs(c:UInt8):kB 0 c=lows.contains c∧(lows.contains c=true→keys.contains c=true):=by
 have:=Kcr ⟨c.toNat,c.toNat_lt⟩
 rw[UInt8.ofNat_toNat] at this
 exact⟨this.1,this.2.2⟩
theorem Kct(i:Nat)(h:0<i)(c:UInt8):kB (i:Int) c=keys.contains c:=by
 have:=(Kcr ⟨c.toNat,c.toNat_lt⟩).2.1
 rw[UInt8.ofNat_toNat] at this
 rw[←this]
 unfold kB
 rw[dT (show(i:Int)>0 by omega),dT (show(1:Int)>0 by decide)]
def kLoop(s:Str)(s2:Int):Option (LS Int (Unit ⊕ Bool)):=bif decide ((s2:Int)<(s.length:Int)) then(bi (getZ s s2) fun c12=>bif !(kB s2 c12) then(bi (some false) fun v=>some (.out (.inr v))) else(some (.go (wi (s2+1))))) else(some (.out (.inl ())))
theorem Kcu(k:Nat)(s:Str):Leb k s=bi (loopM (kLoop s) k 0) fun q=>orI q fun a6=>some ((!((s:Str)==[]))&&(decide (((s.length:Int):Int)≤40))):=rfl
theorem Kcv(s:Str)(hl:s.length≤100000)(i:Nat)(hi:i<s.length):kLoop s (i:Int)=some (if kB (i:Int) s[i] then .go ((i+1:Nat):Int) else .out (.inr false)):=by
 have hg:getZ s (i:Int)=some s[i]:=Lcb (gGe hi)
 unfold kLoop
 rw[dT (show(i:Int)<(s.length:Int) by omega),cond_true,Kdl hg,Law (by omega) (by omega)]
 cases kB (i:Int) s[i]<;>rfl
theorem Kcw(s:Str):kLoop s (s.length:Int)=some (.out (.inl ())):=by
 unfold kLoop
 rw[dF (show ¬ (s.length:Int)<(s.length:Int) by omega)]
 rfl
theorem Kcx(s:Str)(hl:s.length≤100000):∀ (n k i:Nat),n=s.length - i→0<i→i≤s.length→n<k→loopM (kLoop s) k (i:Int)=some (if (s.drop i).all (fun c=>keys.contains c) then .inl () else .inr false)
 | n,0,i,_,_,_,h=>absurd h (Nat.not_lt_zero _)
 | n,k+1,i,hn,h0,hi,hk=>by
  by_cases he:i<s.length
  ·have hdr:s.drop i=s[i] :: s.drop (i+1):=List.drop_eq_getElem_cons he
   have hstep:=Kcv s hl i he
   rw[Kct i h0] at hstep
   rw[hdr,List.all_cons]
   cases hD:keys.contains s[i] with
   | false=>
    rw[hD] at hstep
    exact Kdk _ hstep
   | true=>
    rw[hD] at hstep
    rw[Kdj _ hstep,Bool.true_and]
    exact Kcx s hl (n - 1) k (i+1) (by omega) (by omega) (by omega) (by omega)
  have:i=s.length:=by omega
  subst this
  rw[List.drop_length]
  exact Kdk _ (Kcw s)
def keyB(s:Str):Bool:=decide (1≤s.length∧s.length≤40)&&((s.take 1).all (fun c=>lows.contains c)&&s.all (fun c=>keys.contains c))
theorem keyP(k:Nat)(s:Str)(hs:s.length≤50000)(hk:s.length+1<k):Leb k s=some (keyB s):=by
 rw[Kcu]
 obtain⟨k,rfl⟩:∃ k',k=k'+1:=⟨k - 1,by omega⟩
 cases s with
 | nil=>rfl
 | cons c t=>
  have h1:kLoop (c :: t) 0=some (if lows.contains c=true then .go ((1:Nat):Int) else .out (.inr false)):=by
   refine(Kcv (c :: t) (by omega) 0 (by simp)).trans ?_
   show some (if kB 0 c=true then LS.go ((1:Nat):Int) else LS.out (Sum.inr false))=_
   rw[(Kcs c).1]
  unfold keyB
  simp only[List.take_succ_cons,List.take_zero,List.all_cons,List.all_nil,Bool.and_true]
  cases hc:lows.contains c with
  | false=>
   rw[hc] at h1
   rw[Kdl (Kdk _ h1),Bool.false_and,Bool.and_false]
   rfl
  | true=>
   rw[hc] at h1
   have h2:=Kcx (c :: t) (by omega) ((c :: t).length - 1) k 1 rfl (by decide) (by simp) (by simp at hk ⊢;omega)
   rw[List.drop_one,List.tail_cons] at h2
   rw[Kdl ((Kdj _ h1).trans h2),(Kcs c).2 hc,Bool.true_and,Bool.true_and]
   cases t.all fun c=>keys.contains c with
   | false=>rw[Bool.and_false];rfl
   | true=>
    rw[Bool.and_true]
    show some ((!((c :: t:Str)==[]))&&(decide ((((c :: t).length:Int):Int)≤40)))=_
    rw[Kdm,dF (show ¬ (c :: t).length=0 by simp)]
    congr 1
    rw[Bool.not_false,Bool.true_and]
    refine decide_eq_decide.2 ?_
    simp only[List.length_cons]
    omega
theorem keyR(s:Str)(hs:s.length≤50000):Lfv s=some (keyB s):=by
 unfold Lfv keyB
 rw[Kdl (Kcb _ 1 40)]
 by_cases h:1≤s.length∧s.length≤40
 ·rw[dT h,dT (show(1:Int)≤(s.length:Int)∧(s.length:Int)≤40 by omega),cond_true]
  have h1:subZ s 0 1=some (s.take 1):=by
   have:=Lca (l:=s) (i:=0) (j:=1) (by decide) h.1
   simpa using this
  have h2:=Kcn (s.take 1) lows (by simp;omega) (by decide)
  have h3:=Kcn s keys (by omega) (by decide)
  rw[Kdl h1]
  rw[show Lfu (s.take 1) [97,98,99,100,101,102,103,104,105,106,107,108,109,110,111,112,113,114,115,116,117,118,119,120,121,122]=_ from h2]
  cases (s.take 1).all fun c=>lows.contains c with
  | false=>rfl
  | true=>
   simp only[bi_some,cond_true,Bool.true_and]
   rw[show Lfu s [97,98,99,100,101,102,103,104,105,106,107,108,109,110,111,112,113,114,115,116,117,118,119,120,121,122,48,49,50,51,52,53,54,55,56,57,45,95]=_ from h3]
   rfl
 rw[dF h,dF (show ¬ ((1:Int)≤(s.length:Int)∧(s.length:Int)≤40) by omega)]
 rfl
theorem Kcy{c:UInt8}:∀ {s:Str},(∀ b∈s,b≠c)→Lib.indexByte s c=-1
 | [],_=>rfl
 | b :: s,h=>by
  have h1:(b==c)=false:=by simpa using h b mCs
  have ih:=Kcy (s:=s) fun c hc=>h c (mCo _ hc)
  simp[Lib.indexByte,h1,ih]
theorem Kcz{c:UInt8}:∀ {x:Str} (t:Str),(∀ b∈x,b≠c)→Lib.indexByte (x++c :: t) c=(x.length:Int)
 | [],t,_=>by simp[Lib.indexByte]
 | b :: x,t,h=>by
  have h1:(b==c)=false:=by simpa using h b mCs
  have ih:=Kcz (x:=x) t fun c hc=>h c (mCo _ hc)
  simp only[List.cons_append,Lib.indexByte,h1,ih,List.length_cons]
  rw[if_neg (by decide),if_neg (by simp)]
  omega
theorem Kda{c:UInt8}{s:Str}(h:∀ b∈s,b≠c):Lib.split s [c]=[s]:=by
 unfold Lib.split
 rw[Lib.count_one,List.count_eq_zero_of_not_mem fun hm=>h _ hm rfl]
 rfl
theorem Kdb{c:UInt8}{x:Str}(t:Str)(h:∀ b∈x,b≠c):Lib.split (x++c :: t) [c]=x :: Lib.split t [c]:=by
 unfold Lib.split
 rw[Lib.count_one,Lib.count_one,List.count_append,List.count_eq_zero_of_not_mem fun hm=>h _ hm rfl,List.count_cons_self,Nat.zero_add]
 have e:Lib.index (x++c :: t) [c]=(x.length:Int):=by rw[Lib.index_one];exact Kcz t h
 conv=>lhs;unfold Lib.splitK
 rw[e,if_neg (by simp)]
 simp
theorem Kdc(c:UInt8):∀ s:Str,(∀ b∈s,b≠c)∨∃ x t,s=x++c :: t∧∀ b∈x,b≠c
 | []=>.inl fun b hb=>by cases hb
 | a :: s=>by
  by_cases ha:a=c
  ·exact .inr ⟨[],s,by rw[ha];rfl,fun b hb=>by cases hb⟩
  rcases Kdc c s with h | ⟨x,t,h1,h2⟩
  ·refine .inl fun b hb=>?_
   rcases List.mem_cons.1 hb with rfl | hb
   ·exact ha
   exact h b hb
  refine .inr ⟨a :: x,t,by rw[h1];rfl,fun b hb=>?_⟩
  rcases List.mem_cons.1 hb with rfl | hb
  ·exact ha
  exact h2 b hb
theorem Kdd(c:UInt8)(s:Str):Lib.split s [c]≠[]:=by
 rcases Kdc c s with h | ⟨x,t,h1,h2⟩
 ·rw[Kda h];simp
 rw[h1,Kdb t h2];simp
theorem Kde(c:UInt8):∀ (n:Nat) (s:Str),s.length≤n→(∀ x∈Lib.split s [c],x.length≤s.length∧∀ b∈x,b∈s∧b≠c)∧(∀ b∈s,b=c∨∃ x∈Lib.split s [c],b∈x)∧(Lib.split s [c]).length≤s.length+1
 | n,s,hn=>by
  rcases Kdc c s with h | ⟨x,t,h1,h2⟩
  ·rw[Kda h]
   refine⟨fun x hx=>?_,fun b hb=>.inr ⟨s,by simp,hb⟩,by simp⟩
   rw[List.mem_singleton.1 hx]
   exact⟨Nat.le_refl _,fun b hb=>⟨hb,h b hb⟩⟩
  have hl:s.length=x.length+1+t.length:=by rw[h1];simp;omega
  match n with
  | 0=>omega
  | n+1=>
   obtain⟨i1,i2,i3⟩:=Kde c n t (by omega)
   rw[h1,Kdb t h2]
   refine⟨fun y hy=>?_,fun b hb=>?_,?_⟩
   ·rcases List.mem_cons.1 hy with rfl | hy
    ·exact⟨by simp,fun b hb=>⟨by simp[hb],h2 b hb⟩⟩
    obtain⟨j1,j2⟩:=i1 y hy
    exact⟨by simp;omega,fun b hb=>⟨by simp[(j2 b hb).1],(j2 b hb).2⟩⟩
   ·rw[List.mem_append,List.mem_cons] at hb
    rcases hb with hb | rfl | hb
    ·exact .inr ⟨x,by simp,hb⟩
    ·exact .inl rfl
    rcases i2 b hb with h | ⟨y,hy,h⟩
    ·exact .inl h
    exact .inr ⟨y,by simp[hy],h⟩
   simp;omega
theorem Kdf{c:UInt8}{s:Str}:decide (0≤Lib.indexByte s c)=s.contains c:=by
 rcases Kdc c s with h | ⟨x,t,h1,h2⟩
 ·rw[Kcy h]
  have:s.contains c=false:=Bool.eq_false_iff.2 fun hc=>h c (List.contains_iff_mem.1 hc) rfl
  rw[this];rfl
 rw[h1,Kcz t h2,dT (by omega)]
 simp
theorem Kdg(c:UInt8){s:Str}(h:s.length≤1000000):Kxz s [c]=some (Lib.split s [c]):=by
 unfold Kxz
 rw[show Nat.blt s.length 4294967281=true from by rw[Nat.blt_eq];omega]
 rfl
theorem Kdh{a b:Str}(h:a.length+b.length≤9223372036854775807):catZ a b=some (a++b):=by unfold catZ;rw[Nat.ble_eq_true_of_le h];rfl
theorem Kdi(n:Int):(runeS n).length≤4:=by
 unfold runeS Utf8.encode
 simp only
 repeat' split
 all_goals simp
end Go.Gk
namespace Go.Gk
inductive CC where
 | mk (Kind:Int) (Name Op:Str) (Value:Lcv) (Kids:List CC)
mutual
def CC.t:CC→Lcw
 | .mk k n o v l=>⟨k,n,o,v,pk Lcx (CC.ts l)⟩
def CC.ts:List CC→List Lcw
 | []=>[]
 | c :: r=>c.t :: CC.ts r
end
def CC.kids:CC→List CC
 | .mk _ _ _ _ l=>l
theorem Kav:∀ l:List CC,CC.ts l=l.map CC.t
 | []=>by simp[CC.ts]
 | c :: r=>by simp[CC.ts,Kav r]
theorem Kaw(c:CC):unK d_api_Cond 11 c.t.Kids=some (c.kids.map CC.t):=by
 cases c with
 | mk k n o v l=>
  simp only[CC.t,CC.kids,Kav]
  exact Kpb Lhu (fun _=>rfl) _
mutual
def CC.dp:CC→Nat
 | .mk _ _ _ _ l=>CC.dps l+1
def CC.dps:List CC→Nat
 | []=>0
 | c :: r=>max c.dp (CC.dps r)
end
theorem Kax:∀ (l:List CC) (x:CC),x∈l→x.dp≤CC.dps l
 | c :: r,x,h=>by
  simp only[CC.dps]
  rcases List.mem_cons.1 h with rfl | h
  ·exact Nat.le_max_left _ _
  exact Nat.le_trans (Kax r x h) (Nat.le_max_right _ _)
theorem Kay:∀ (l:List CC) (n:Nat),(∀ x∈l,x.dp≤n)→CC.dps l≤n
 | [],n,_=>by simp[CC.dps]
 | c :: r,n,h=>by
  simp only[CC.dps]
  exact Nat.max_le.2 ⟨h c mCs,Kay r n fun x hx=>h x (mCo _ hx)⟩
theorem Kaz{c x:CC}(h:x∈c.kids):x.dp<c.dp:=by
 cases c with
 | mk k n o v l=>
  have:=Kax l x h
  simp only[CC.dp]
  omega
theorem Lmi{fL fD:Nat→Lcw→Int→Option Int}{fS:Nat→Lcw→Int×Int→Option (Int×Int)}:∀ (l:List CC)
  (h:∀ x∈l,∃ n d,∀ i (a b:Int),fL i x.t a=some (wi (a+n))∧fD i x.t b=some (if d>b then d else b)∧fS i x.t (a,b)=some (wi (a+n),if d>b then d else b)) (i:Nat) (a b:Int),
  ∃ a' b',rangeF fL i (l.map CC.t) a=some a'∧rangeF fD i (l.map CC.t) b=some b'∧rangeF fS i (l.map CC.t) (a,b)=some (a',b')
 | [],_,i,a,b=>⟨a,b,rfl,rfl,rfl⟩
 | x :: l,h,i,a,b=>by
  obtain⟨n,d,hx⟩:=h x mCs
  obtain⟨h1,h2,h3⟩:=hx i a b
  obtain⟨a',b',e1,e2,e3⟩:=Lmi l (fun y hy=>h y (mCo _ hy)) (i+1) (wi (a+n)) (if d>b then d else b)
  exact⟨a',b',by simp only[List.map_cons,rangeF,h1,bi_some,e1],by simp only[List.map_cons,rangeF,h2,bi_some,e2],by simp only[List.map_cons,rangeF,h3,bi_some,e3]⟩
theorem Kba:∀ (k:Nat) (c:CC),c.dp<k→∃ n d,Lfn k c.t=some n∧Lfo k c.t=some d∧Ldv k c.t=some (n,d)
 | 0,c,h=>absurd h (Nat.not_lt_zero _)
 | k+1,c,h=>by
  have hk:∀ x∈c.kids,∃ n d,Lfn k x.t=some n∧Lfo k x.t=some d∧Ldv k x.t=some (n,d):=fun x hx=>Kba k x (by have:=Kaz hx;omega)
  obtain⟨q,hq⟩:∃ q:Int,(bif (c.t.Kind:Int)==1 then(some 1) else(some 0):Option Int)=some q:=by cases (c.t.Kind:Int)==1<;>exact⟨_,rfl⟩
  obtain⟨a',b',e1,e2,e3⟩:=Lmi (fL:=fun i7 x9 s8=>bi (Lfn k x9) fun y18=>some (wi (s8+y18))) (fD:=fun i3 x5 s4=>bi (Lfo k x5) fun y14=>some (if y14>s4 then y14 else s4))
   (fS:=fun i7 x9 s8=>bi (Ldv k x9) fun y18=>some (wi (s8.1+y18.1),(if y18.2>s8.2 then y18.2 else s8.2))) c.kids (fun x hx=>by
    obtain⟨n,d,h1,h2,h3⟩:=hk x hx
    exact⟨n,d,fun i a b=>⟨by rw[h1];rfl,by rw[h2];rfl,by rw[h3];rfl⟩⟩) 0 q 0
  refine⟨a',wi (b'+1),?_,?_,?_⟩
  ·simp only[Lfn,hq,bi_some,Kaw]
   rw[e1];rfl
  ·simp only[Lfo,bi_some,Kaw]
   rw[e2];rfl
  simp only[Ldv,hq,bi_some,Kaw]
  rw[e3];rfl
def wB(c:UInt8):Bool:=decide (32≤c.toNat)&&decide (c.toNat≤126)
theorem Kbb{L:List Int}(hL:L.length=4){p:Int→Bool}{e:Int}{f:Int→Option (LS Int (Unit ⊕ Int))}(hf:∀ (i:Nat) (x:Int),L[i]?=some x→f (i:Int)=some (if p x then .out (.inr e) else .go ((i+1:Nat):Int)))(hend:f 4=some (.out (.inl ()))) :
  ∀ (n k i:Nat),n=4 - i→i≤4→n<k→loopM f k (i:Int)=some (if (L.drop i).any p then .inr e else .inl ())
 | n,0,i,_,_,h=>absurd h (Nat.not_lt_zero _)
 | n,k+1,i,hn,hi,hk=>by
  by_cases he:i<4
  ·have hx:L[i]?=some L[i]:=gGe (by omega)
   have hdr:L.drop i=L[i] :: L.drop (i+1):=List.drop_eq_getElem_cons (by omega)
   have hs:=hf i _ hx
   rw[hdr,List.any_cons]
   cases hp:p L[i] with
   | true=>rw[hp] at hs;exact Kdk _ hs
   | false=>
    rw[hp] at hs
    rw[Kdj _ hs,Bool.false_or]
    exact Kbb hL hf hend (n - 1) k (i+1) (by omega) (by omega) (by omega)
  ·obtain rfl:i=4:=by omega
   rw[List.drop_eq_nil_of_le (by omega)]
   exact Kdk _ hend
theorem Kbc(s:Str)(h:s.length≤50000):Leh s=some (s.all wB&&decide (s.length≤100)):=by
 unfold Leh
 rw[dT (show(s.length:Int)≤9223372036854775807 by omega)]
 simp only[gd,cond_true]
 rw[Lbj (p:=wB) (v:=false) s (fun i x hx=>by
  rw[Lcb hx]
  simp only[bi_some]
  unfold wB
  by_cases h1:32≤x.toNat
  ·rw[dF (show ¬ (x.toNat:Int)<32 by omega),dT h1]
   simp only[cond_false,bi_some,Bool.true_and]
   by_cases h2:x.toNat≤126
   ·rw[dF (show ¬ (x.toNat:Int)>126 by omega),dT h2];rfl
   rw[dT (show(x.toNat:Int)>126 by omega),dF h2];rfl
  rw[dT (show(x.toNat:Int)<32 by omega),dF h1];rfl)]
 cases s.all wB with
 | false=>rfl
 | true=>
  show some (decide ((s.length:Int)≤100))=_
  rw[Bool.true_and]
  congr 1
  refine decide_eq_decide.2 ?_
  omega
theorem bbif{α:Type}(b c d:Bool):(bif b then(some c:Option Bool) else some d)=some (bif b then c else d):=by cases b<;>rfl
theorem Kbd(a:Str)(h:a.length≤50000):rangeI (σ:=Unit) (ρ:=Int) (fun i27 s28=>bi (getZ a (i27:Int)) fun c39=>bi (Lfp (wi ((c39.toNat:Int))) 32 126) fun y41=>bif !y41 then(bi (some 3) fun v=>some (.out v)) else(some (.go ()))) (a.length:Int) ()=some (if a.all wB then .go () else .out 3):=
 Lbj (p:=wB) (v:=3) a (fun i x hx=>by
  have hx2:=x.toNat_lt
  rw[Lcb hx]
  simp only[bi_some,Lfp]
  rw[Law (by omega) (by omega)]
  unfold wB
  rw[show decide ((32:Int)≤(x.toNat:Int))=decide (32≤x.toNat) from decide_eq_decide.2 (by omega),show decide ((x.toNat:Int)≤126)=decide (x.toNat≤126) from decide_eq_decide.2 (by omega)]
  cases (decide (32≤x.toNat)&&decide (x.toNat≤126))<;>rfl)
def vL(a:Lcv):List Int:=[a.Version.1,a.Version.2.1,a.Version.2.2.1,a.Version.2.2.2]
theorem verP(k:Nat)(hk:10<k)(a:Lcv):loopM (σ:=Int) (ρ:=Unit ⊕ Int) (fun s34=>bif decide ((s34:Int)<4) then(bi (getZ ([a.Version.1,a.Version.2.1,a.Version.2.2.1,a.Version.2.2.2]:List Int) s34) fun x44=>bi (bif (a.Kind:Int)==4 then(bi (Ldw x44 0 1000000) fun y49=>some y49) else(some false)) fun q46=>bif q46 then(bi (some 1) fun v=>some (.out (.inr v))) else(bif (((a.Kind:Int) != 4)&&((x44:Int) != 0)) then(bi (some 3) fun v=>some (.out (.inr v))) else(some (.go (wi (s34+1)))))) else(some (.out (.inl ())))) k 0 =
  some (if (vL a).any (fun x=>bif (a.Kind:Int)==4 then decide (x<0)||decide (x>1000000) else x != 0) then .inr (bif (a.Kind:Int)==4 then 1 else 3) else .inl ()):=by
 refine(Kbb (L:=vL a) rfl (p:=fun x=>bif (a.Kind:Int)==4 then decide (x<0)||decide (x>1000000) else x != 0) (e:=bif (a.Kind:Int)==4 then 1 else 3) (fun i x hx=>?_) ?_ 4 k 0 rfl (by decide) (by omega)).trans (congrArg (fun l=>some (if List.any l _=true then _ else _)) List.drop_zero)
 ·have hi:i<4:=(gEs.1 hx).1
  rw[dT (show(i:Int)<4 by omega),cond_true,show getZ ([a.Version.1,a.Version.2.1,a.Version.2.2.1,a.Version.2.2.2]:List Int) (i:Int)=some x from Lcb hx]
  simp only[bi_some,Ldw]
  rw[Law (by omega) (by omega)]
  cases hK:(a.Kind:Int)==4 with
  | true=>
   simp only[cond_true,bi_some]
   have:((a.Kind:Int) != 4)=false:=by simp[bne,hK]
   rw[this]
   cases (decide (x<0)||decide (x>1000000))<;>rfl
  | false=>
   have:((a.Kind:Int) != 4)=true:=by simp[bne,hK]
   simp only[cond_false,bi_some,this,Bool.true_and]
   cases (x != 0)<;>rfl
 ·rfl
theorem verR(k:Nat)(hk:10<k)(a:Lcv):loopM (σ:=Int) (ρ:=Unit ⊕ Int) (fun s48=>bif decide ((s48:Int)<4) then(bi (getZ ([a.Version.1,a.Version.2.1,a.Version.2.2.1,a.Version.2.2.2]:List Int) s48) fun x58=>bi (bif (a.Kind:Int)==4 then(bi (Lfp x58 0 1000000) fun y63=>some (!y63)) else(some false)) fun q60=>bif q60 then(bi (some 1) fun v=>some (.out (.inr v))) else(some (.go (wi (s48+1))))) else(some (.out (.inl ())))) k 0 =
  some (if (vL a).any (fun x=>bif (a.Kind:Int)==4 then decide (x<0)||decide (x>1000000) else false) then .inr 1 else .inl ()):=by
 refine(Kbb (L:=vL a) rfl (p:=fun x=>bif (a.Kind:Int)==4 then decide (x<0)||decide (x>1000000) else false) (e:=1) (fun i x hx=>?_) ?_ 4 k 0 rfl (by decide) (by omega)).trans (congrArg (fun l=>some (if List.any l _=true then _ else _)) List.drop_zero)
 ·have hi:i<4:=(gEs.1 hx).1
  rw[dT (show(i:Int)<4 by omega),cond_true,show getZ ([a.Version.1,a.Version.2.1,a.Version.2.2.1,a.Version.2.2.2]:List Int) (i:Int)=some x from Lcb hx]
  simp only[bi_some,Lfp]
  rw[Law (by omega) (by omega)]
  cases hK:(a.Kind:Int)==4 with
  | true=>
   simp only[cond_true,bi_some]
   have hxx:(!(decide ((0:Int)≤x)&&decide (x≤1000000)))=(decide (x<0)||decide (x>1000000)):=by
    by_cases h1:(0:Int)≤x<;>by_cases h2:x≤1000000<;>simp[h1,h2]<;>omega
   rw[hxx]
   cases (decide (x<0)||decide (x>1000000))<;>rfl
  | false=>rfl
 ·rfl
theorem Kbe(a:Lcv):(vL a).any (fun x=>x != 0)=!decide (([a.Version.1,a.Version.2.1,a.Version.2.2.1,a.Version.2.2.2]:List Int)=([0,0,0,0]:List Int)):=by
 unfold vL
 rw[Bool.eq_iff_iff]
 simp
theorem Kbf(k:Nat)(hk:10<k)(a:Lcv)(hw:a.Words.length≤50000):∃ e,Lei k a=some e∧Lfx k a=some e:=by
 unfold Lei Lfx
 rw[Kbc a.Words hw,Kbd a.Words hw,verP k hk a,verR k hk a,dT (show(a.Words.length:Int)≤9223372036854775807 by omega)]
 obtain⟨c1,h1,h1'⟩:=Lbk a.Kind 1 4
 rw[h1,h1']
 simp only[bi_some]
 cases c1 with
 | true=>exact⟨4,rfl,rfl⟩
 | false=>
  simp only[cond_false,Bool.not_false,Bool.not_true]
  obtain⟨c2,h2,h2'⟩:=Lbk a.Number (-100000000) 100000000
  obtain⟨c3,h3,h3'⟩:=Lbk a.Number 0 1
  rw[h2,h2',h3,h3']
  simp only[bi_some,Bool.not_not,bbif (α:=Bool)]
  cases hq:(bif bif (a.Kind:Int)==1 then c2 else false then true else bif (a.Kind:Int)==3 then c3 else false) with
  | true=>exact⟨1,rfl,rfl⟩
  | false=>
   simp only[cond_false]
   cases hn:((((a.Kind:Int) != 1)&&((a.Kind:Int) != 3))&&((a.Number:Int) != 0)) with
   | true=>exact⟨3,rfl,rfl⟩
   | false=>
    simp only[cond_false]
    simp only[gd,cond_true,bi_some,bbif (α:=Bool)]
    by_cases hl:a.Words.length≤100
    ·rw[dT hl,dF (show ¬ (a.Words.length:Int)>100 by omega)]
     cases hK2:(a.Kind:Int)==2 with
     | true=>
      have hb:((a.Kind:Int) != 2)=false:=by simp[bne,hK2]
      have hK4:((a.Kind:Int)==4)=false:=by
       have:=eq_of_beq hK2;rw[this];rfl
      have hb4:((a.Kind:Int) != 4)=true:=by simp[bne,hK4]
      rw[hb,hK4,hb4]
      simp only[Bool.false_and,Bool.or_false,cond_true,cond_false,Bool.and_true,Bool.true_and]
      cases hall:a.Words.all wB with
      | false=>exact⟨3,rfl,rfl⟩
      | true=>
       simp only[Bool.not_true,cond_false,if_true,bi_some,goI,orI]
       rw[Kbe]
       cases decide (([a.Version.1,a.Version.2.1,a.Version.2.2.1,a.Version.2.2.2]:List Int)=([0,0,0,0]:List Int)) with
       | true=>exact⟨0,by simp[orI],by simp[orI]⟩
       | false=>exact⟨3,by simp[orI],by simp[orI]⟩
     | false=>
      have hb:((a.Kind:Int) != 2)=true:=by simp[bne,hK2]
      rw[hb]
      simp only[cond_false,Bool.false_or,Bool.true_and,Bool.or_false]
      cases hE:((a.Words:Str)==[]) with
      | false=>exact⟨3,rfl,rfl⟩
      | true=>
       have:a.Words=[]:=eq_of_beq hE
       rw[this]
       simp only[Bool.not_true,cond_false,List.all_nil,if_true,bi_some,goI,orI]
       cases hK4:(a.Kind:Int)==4 with
       | true=>
        have hb4:((a.Kind:Int) != 4)=false:=by simp[bne,hK4]
        rw[hb4]
        simp only[cond_true,Bool.false_and,cond_false]
        by_cases hv:((vL a).any fun x=>decide (x<0)||decide (x>1000000))=true
        ·exact⟨1,by rw[if_pos hv],by rw[if_pos hv]⟩
        exact⟨0,by rw[if_neg hv],by rw[if_neg hv]⟩
       | false=>
        have hb4:((a.Kind:Int) != 4)=true:=by simp[bne,hK4]
        rw[hb4]
        simp only[cond_false,Bool.true_and]
        rw[Kbe]
        cases decide (([a.Version.1,a.Version.2.1,a.Version.2.2.1,a.Version.2.2.2]:List Int)=([0,0,0,0]:List Int)) with
        | true=>exact⟨0,by simp[orI],by simp[orI]⟩
        | false=>exact⟨3,by simp[orI],by simp[orI]⟩
    rw[dF hl,dT (show(a.Words.length:Int)>100 by omega)]
    refine⟨3,?_,by simp⟩
    have hne:((a.Words:Str)==[])=false:=by
     cases hh:a.Words with
     | nil=>rw[hh] at hl;simp at hl
     | cons x y=>rfl
    rw[hne]
    cases hK2:(a.Kind:Int)==2 with
    | true=>simp[bne,hK2]
    | false=>simp[bne,hK2]
theorem Kbg{α:Type}{f:Nat→α→Unit→Option (LS Unit Int)}(p:α→Bool)(hf:∀ i x,f i x ()=some (if p x then .out (i:Int) else .go ())):∀ (l:List α) (i:Nat),(l.any p=false∧rangeM f i l ()=some (.go ()))∨(l.any p=true∧∃ v:Int,0≤v∧rangeM f i l ()=some (.out v))
 | [],i=>.inl ⟨rfl,rfl⟩
 | x :: l,i=>by
  have h0:=hf i x
  cases hp:p x with
  | true=>
   rw[hp] at h0
   exact .inr ⟨by simp[hp],i,by omega,by simp only[rangeM,h0,if_true]⟩
  | false=>
   rw[hp] at h0
   rcases Kbg p hf l (i+1) with⟨h1,h2⟩ | ⟨h1,v,h2,h3⟩
   ·exact .inl ⟨by simp[hp,h1],by simp only[rangeM,h0];exact h2⟩
   exact .inr ⟨by simp[hp,h1],v,h2,by simp only[rangeM,h0];exact h3⟩
theorem Lmj(l:List Lcw)(c:Lcw):Ldz l c=some (l.any fun x=>(x.Kind:Int)==c.Kind):=by
 unfold Ldz Ldy Ldx
 rcases Kbg (f:=fun i1 x3 s2=>bi (some ((x3.Kind:Int)==c.Kind)) fun y12=>bif y12 then(bi (some (i1:Int)) fun v=>some (.out v)) else(some (.go ()))) (fun x=>(x.Kind:Int)==c.Kind) (fun i x=>by cases h:((x.Kind:Int)==c.Kind)<;>rfl) l 0 with⟨h1,h2⟩ | ⟨h1,v,h2,h3⟩
 ·rw[h2,h1];rfl
 rw[h3,h1]
 show some (decide (v≥0))=_
 rw[dT h2]
theorem Lmk(l:List Lcw)(c:Lcw):Lfs l c=some (l.any fun x=>(x.Kind:Int)==c.Kind):=by
 unfold Lfs Lfr Lfq
 rcases Kbg (f:=fun i1 x3 s2=>bi (some ((x3.Kind:Int)==c.Kind)) fun y12=>bif y12 then(bi (some (i1:Int)) fun v=>some (.out v)) else(some (.go ()))) (fun x=>(x.Kind:Int)==c.Kind) (fun i x=>by cases h:((x.Kind:Int)==c.Kind)<;>rfl) l 0 with⟨h1,h2⟩ | ⟨h1,v,h2,h3⟩
 ·rw[h2,h1];rfl
 rw[h3,h1]
 show some (decide (v≥0))=_
 rw[dT h2]
def opsB(s:Str):Bool:=[[61,61],[33,61],[60],[60,61],[62],[62,61]].any fun x=>(s:Str)==x
theorem Lml(l:List Str)(s:Str):Lef l s=some (l.any fun x=>(s:Str)==x):=by
 unfold Lef Lee
 rcases Kbg (f:=fun i1 (x3:Str) s2=>bif (s:Str)==x3 then(bi (some (i1:Int)) fun v=>some (.out v)) else(some (.go ()))) (fun x=>(s:Str)==x) (fun i x=>by cases h:((s:Str)==x)<;>rfl) l 0 with⟨h1,h2⟩ | ⟨h1,v,h2,h3⟩
 ·rw[h2,h1];rfl
 rw[h3,h1]
 show some (decide (v≥0))=_
 rw[dT h2]
theorem Kbh(s:Str):Leg s=some (opsB s):=by
 unfold Leg
 rw[Lml];rfl
def verB(s:Str):Bool:=match s with
 | c :: d :: _=>(c==118)&&isD d
 | _=>false
theorem Kbi(c:UInt8):Lec (c.toNat:Int)=some (isD c):=by
 unfold Lec isD
 congr 2
 ·exact decide_eq_decide.2 (by omega)
 exact decide_eq_decide.2 (by omega)
theorem Kbj(c:UInt8)(n:Nat)(hn:n<256):((c.toNat:Int)==(n:Int))=(c==UInt8.ofNat n):=by
 rw[Bool.eq_iff_iff]
 simp only[beq_iff_eq]
 constructor
 ·intro h
  apply UInt8.toNat_inj.1
  rw[UInt8.toNat_ofNat']
  omega
 intro h;subst h
 rw[UInt8.toNat_ofNat']
 omega
theorem Kbk(s:Str):Led s=some (verB s):=by
 unfold Led
 match s with
 | []=>rfl
 | [c]=>rfl
 | c :: d :: r=>
  rw[dT (show(((c :: d :: r).length:Int):Int)>1 by simp;omega)]
  have e0:getZ (c :: d :: r) 0=some c:=rfl
  have e1:getZ (c :: d :: r) 1=some d:=rfl
  simp only[cond_true,e0,e1,bi_some,Kbi]
  rw[show((c.toNat:Int)==118)=(c==118) from Kbj c 118 (by decide),show verB (c :: d :: r)=((c==118)&&isD d) from rfl]
  cases c==118<;>rfl
theorem Kbl(s:Str)(hs:s.length≤50000):Lfw s=some (keyB s&&!((s:Str)==[116,114,117,101])&&!((s:Str)==[102,97,108,115,101])&&!verB s):=by
 unfold Lfw
 rw[keyR s hs]
 simp only[bi_some]
 cases h:(keyB s&&!((s:Str)==[116,114,117,101])&&!((s:Str)==[102,97,108,115,101])) with
 | false=>rfl
 | true=>
  simp only[cond_true,Bool.true_and]
  match s,h with
  | [],h=>exact absurd h (by decide)
  | [c],h=>
   have e0:getZ [c] 0=some c:=rfl
   rw[e0]
   simp only[bi_some]
   rw[show decide ((([c].length:Int):Int)>1)=false from rfl,Bool.and_false]
   rfl
  | c :: d :: r,h=>
   have e0:getZ (c :: d :: r) 0=some c:=rfl
   have e1:getZ (c :: d :: r) 1=some d:=rfl
   rw[e0,e1]
   simp only[bi_some]
   rw[dT (show(((c :: d :: r).length:Int):Int)>1 by simp;omega),show((c.toNat:Int)==118)=(c==118) from Kbj c 118 (by decide),show decide ((d.toNat:Int)≥48)=decide (48≤d.toNat) from decide_eq_decide.2 (by omega),show decide ((d.toNat:Int)≤57)=decide (d.toNat≤57) from decide_eq_decide.2 (by omega),Bool.and_true]
   rw[show verB (c :: d :: r)=((c==118)&&(decide (48≤d.toNat)&&decide (d.toNat≤57))) from rfl]
   cases c==118 with
   | false=>rfl
   | true=>
    simp only[cond_true,bi_some,Bool.true_and]
    cases decide (48≤d.toNat)<;>rfl
inductive CC.Gd:CC→Prop
 | mk {k:Int} {n o:Str} {v:Lcv} {l:List CC} (h1:n.length≤50000) (h2:v.Words.length≤50000) (h3:∀ x∈l,x.Gd):CC.Gd (.mk k n o v l)
def zA:Lcv:=⟨0,0,[],(0,0,0,0)⟩
def kidsP(k:Nat)(l42:List Lcw):Option Int:=bi (rangeM (σ:=Unit) (ρ:=Int) (fun i44 x46 s45=>bi (Lej k x46) fun y55=>bif (y55:Int) != 0 then(bi (some y55) fun v=>some (.out v)) else(some (.go ()))) 0 l42 ()) fun q=>goI q fun a49=>some 0
def leafP(k:Nat)(c:Lcw):Option (Unit ⊕ Int):=bif (c.Kind:Int)==1 then(bi (Leb k c.Name) fun y13=>bi (bif (((!y13)||((c.Name:Str)==[116,114,117,101]))||((c.Name:Str)==[102,97,108,115,101])) then(some true) else(bi (Led c.Name) fun y19=>some y19)) fun q15=>bif q15 then(bi (some 5) fun v=>some (.inr v)) else(bi (Leg c.Op) fun y25=>bif !y25 then(bi (some 10) fun v=>some (.inr v)) else(bi (Lei k c.Value) fun y31=>bif (y31:Int) != 0 then(bi (some y31) fun v=>some (.inr v)) else(bif ((((c.Value.Kind:Int)==3)&&(!((c.Op:Str)==[61,61])))&&(!((c.Op:Str)==[33,61]))) then(bi (some 10) fun v=>some (.inr v)) else(some (.inl ())))))) else(some (.inl ()))
theorem Kbm(k:Nat)(c:Lcw):Lej (k+1) c=bi (Ldw c.Kind 1 4) fun y1=>bif y1 then(some 4) else(bi (Lea c) fun y5=>bif !y5 then(some 3) else(bi (leafP k c) fun q=>orI q fun a11=>bi (unK d_api_Cond 11 c.Kids) fun l42=>kidsP k l42)):=rfl
def nameB(s:Str):Bool:=keyB s&&!((s:Str)==[116,114,117,101])&&!((s:Str)==[102,97,108,115,101])&&!verB s
def leafE(c:Lcw)(ea:Int):Int:=bif !nameB c.Name then 5 else bif !opsB c.Op then 10 else bif (ea:Int) != 0 then ea else bif ((((c.Value.Kind:Int)==3)&&(!((c.Op:Str)==[61,61])))&&(!((c.Op:Str)==[33,61]))) then 10 else 0
theorem Kbn(k:Nat)(hk:50010<k)(c:Lcw)(ea:Int)(h1:c.Name.length≤50000)(ha:Lei k c.Value=some ea):leafP k c=some (bif (c.Kind:Int)==1 then(if leafE c ea=0 then .inl () else .inr (leafE c ea)) else .inl ()):=by
 unfold leafP leafE nameB
 cases (c.Kind:Int)==1 with
 | false=>rfl
 | true=>
  simp only[cond_true]
  rw[keyP k c.Name h1 (by omega),Kbk,Kbh,ha]
  simp only[bi_some]
  cases keyB c.Name with
  | false=>rfl
  | true=>
   cases ((c.Name:Str)==[116,114,117,101]) with
   | true=>rfl
   | false=>
    cases ((c.Name:Str)==[102,97,108,115,101]) with
    | true=>rfl
    | false=>
     cases verB c.Name with
     | true=>rfl
     | false=>
      cases opsB c.Op with
      | false=>rfl
      | true=>
       cases hea:((ea:Int) != 0) with
       | true=>
        have:ea≠0:=by simpa using hea
        simp only[Bool.not_true,Bool.not_false,Bool.or_self,cond_false,cond_true,bi_some,Bool.and_self,if_neg this]
       | false=>
        cases ((((c.Value.Kind:Int)==3)&&(!((c.Op:Str)==[61,61])))&&(!((c.Op:Str)==[33,61])))<;>rfl
def restB(c:Lcw):Bool:=(((c.Name:Str)==[])&&((c.Op:Str)==[]))&&(((c.Value.Kind:Int)==0)&&(((c.Value.Number:Int)==0)&&(((c.Value.Words:Str)==[])&&(decide (([c.Value.Version.1,c.Value.Version.2.1,c.Value.Version.2.2.1,c.Value.Version.2.2.2]:List Int)=[0,0,0,0])&&true))))
def formB(c:Lcw)(L:List Lcw):Bool:=bif (c.Kind:Int)==1 then((L.length:Int):Int)==0 else(bif (c.Kind:Int)==2 then !(((L.length:Int):Int) != 1) else !(decide (((L.length:Int):Int)<2))&&!(L.any fun x=>(x.Kind:Int)==c.Kind))&&restB c
theorem Kbo(c:Lcw)(L:List Lcw)(hu:unK d_api_Cond 11 c.Kids=some L):Lea c=some (formB c L):=by
 unfold Lea formB
 rw[hu]
 simp only[bi_some,Lmj]
 cases (c.Kind:Int)==1 with
 | true=>rfl
 | false=>
  cases (c.Kind:Int)==2 with
  | true=>cases (((L.length:Int):Int) != 1)<;>rfl
  | false=>
   cases (decide (((L.length:Int):Int)<2)) with
   | true=>rfl
   | false=>cases (L.any fun x=>(x.Kind:Int)==c.Kind)<;>rfl
theorem Lmm(a b d:Bool):(((!a)||(!b))||(!d))=!((a&&b)&&d):=by cases a<;>cases b<;>cases d<;>rfl
theorem Kbp(k:Nat)(hk:50010<k)(c:Lcw)(L:List Lcw)(hu:unK d_api_Cond 11 c.Kids=some L)(h1:c.Name.length≤50000)(h2:c.Value.Words.length≤50000) :
  ∃ e:Int,Lfy k c=some e∧Lej (k+1) c=if e=0 then kidsP k L else some e:=by
 obtain⟨ea,hP,hR⟩:=Kbf k (by omega) c.Value h2
 rw[Kbm,Kbo c L hu,Kbn k hk c ea h1 hP,hu]
 unfold Lfy
 obtain⟨c1,o1,o2⟩:=Lbk c.Kind 1 4
 rw[o1,o2,hu,Kbl c.Name h1,hR]
 simp only[bi_some,Lmk,show Ldk=some [[61,61],[33,61],[60],[60,61],[62],[62,61]] from rfl,Lml]
 cases c1 with
 | true=>exact⟨4,rfl,rfl⟩
 | false=>
  have h14:1≤c.Kind∧c.Kind≤4:=by
   unfold Ldw at o1
   have:=oSi o1
   simp at this
   omega
  simp only[cond_false,Bool.not_false,Bool.not_true]
  unfold formB
  cases hK1:((c.Kind:Int)==1) with
  | true=>
   have hK:=eq_of_beq hK1
   have hK2:((c.Kind:Int)==2)=false:=by rw[hK];rfl
   have hn2:((c.Kind:Int) != 2)=true:=by rw[hK];rfl
   have hK3:((c.Kind:Int)==3)=false:=by rw[hK];rfl
   have hK4:((c.Kind:Int)==4)=false:=by rw[hK];rfl
   rw[hK2,hn2,hK3,hK4]
   simp only[cond_true,cond_false,bi_some,Bool.not_true,Bool.false_and,Bool.or_self]
   by_cases hL:L.length=0
   ·rw[hL]
    simp only[bi_some,cond_false,cond_true,show decide (((0:Nat):Int)>0)=false from rfl,show((((0:Nat):Int):Int)==0)=true from rfl,Bool.not_true,goI,orI]
    refine⟨leafE c ea,?_,?_⟩
    ·unfold leafE nameB opsB
     cases (keyB c.Name&&!((c.Name:Str)==[116,114,117,101])&&!((c.Name:Str)==[102,97,108,115,101])&&!verB c.Name) with
     | false=>rfl
     | true=>
      cases ([[61,61],[33,61],[60],[60,61],[62],[62,61]].any fun x=>(c.Op:Str)==x) with
      | false=>rfl
      | true=>
       cases ((ea:Int) != 0) with
       | true=>rfl
       | false=>cases ((((c.Value.Kind:Int)==3)&&(!((c.Op:Str)==[61,61])))&&(!((c.Op:Str)==[33,61])))<;>rfl
    ·by_cases he:leafE c ea=0
     ·simp only[if_pos he,orI]
     ·simp only[if_neg he,orI]
   ·refine⟨3,?_,?_⟩
    ·rw[dT (show((L.length:Int):Int)>0 by omega)];rfl
    ·rw[show(((L.length:Int):Int)==0)=false by simpa using hL];rfl
  | false=>
   simp only[cond_false,bi_some,Bool.not_false,Bool.true_and,if_true,orI]
   rw[Lmm]
   rw[show((((c.Name:Str)==[])&&((c.Op:Str)==[]))&&(((c.Value.Kind:Int)==0)&&(((c.Value.Number:Int)==0)&&(((c.Value.Words:Str)==[])&&(decide (([c.Value.Version.1,c.Value.Version.2.1,c.Value.Version.2.2.1,c.Value.Version.2.2.2]:List Int)=[0,0,0,0])&&true)))))=restB c from rfl]
   cases hK2:((c.Kind:Int)==2) with
   | true=>
    have hK:=eq_of_beq hK2
    have hn2:((c.Kind:Int) != 2)=false:=by rw[hK];rfl
    have hK3:((c.Kind:Int)==3)=false:=by rw[hK];rfl
    have hK4:((c.Kind:Int)==4)=false:=by rw[hK];rfl
    rw[hn2,hK3,hK4]
    simp only[cond_true,cond_false,bi_some,Bool.or_self]
    cases (((L.length:Int):Int) != 1) with
    | true=>exact⟨3,rfl,rfl⟩
    | false=>
     cases restB c with
     | false=>exact⟨3,rfl,rfl⟩
     | true=>exact⟨0,rfl,rfl⟩
   | false=>
    have hn2:((c.Kind:Int) != 2)=true:=by simp[bne,hK2]
    have h34:(((c.Kind:Int)==3)||((c.Kind:Int)==4))=true:=by
     have a1:c.Kind≠1:=by simpa using hK1
     have a2:c.Kind≠2:=by simpa using hK2
     have:c.Kind=3∨c.Kind=4:=by omega
     rcases this with h | h<;>rw[h]<;>rfl
    rw[hn2,h34]
    simp only[cond_true,cond_false,bi_some]
    cases (decide (((L.length:Int):Int)<2)) with
    | true=>exact⟨3,rfl,rfl⟩
    | false=>
     cases restB c with
     | false=>
      cases (L.any fun x=>(x.Kind:Int)==c.Kind)<;>exact⟨3,rfl,rfl⟩
     | true=>
      cases (L.any fun x=>(x.Kind:Int)==c.Kind) with
      | true=>exact⟨3,rfl,rfl⟩
      | false=>exact⟨0,rfl,rfl⟩
theorem Lmn{f g:Nat→Lcw→Unit→Option (LS Unit Int)}:∀ (l:List CC) (i:Nat) (h:∀ x∈l,∃ e:Int,∀ i,f i x.t ()=some (if e=0 then .go () else .out e)∧g i x.t ()=some (if e=0 then .go () else .out e)),
  ∃ r:LS Unit Int,rangeM f i (l.map CC.t) ()=some r∧rangeM g i (l.map CC.t) ()=some r
 | [],i,_=>⟨.go (),rfl,rfl⟩
 | x :: l,i,h=>by
  obtain⟨e,he⟩:=h x mCs
  obtain⟨h1,h2⟩:=he i
  by_cases h0:e=0
  ·rw[if_pos h0] at h1 h2
   obtain⟨r,e1,e2⟩:=Lmn l (i+1) fun y hy=>h y (mCo _ hy)
   exact⟨r,by simp only[List.map_cons,rangeM,h1];exact e1,by simp only[List.map_cons,rangeM,h2];exact e2⟩
  ·rw[if_neg h0] at h1 h2
   exact⟨.out e,by simp only[List.map_cons,rangeM,h1],by simp only[List.map_cons,rangeM,h2]⟩
theorem Kbq:∀ (n k:Nat) (c:CC),c.Gd→c.dp≤n→n+50010<k→∃ e:Int,Lej k c.t=some e∧Lfz k c.t=some e
 | 0,k,c,hg,hn,hk=>by cases c;simp[CC.dp] at hn
 | n+1,0,c,hg,hn,hk=>by omega
 | n+1,k+1,c,hg,hn,hk=>by
  have hu:=Kaw c
  cases hg with
  | mk g1 g2 g3=>
   rename_i K nm op v l
   have hkid:∀ x∈l,∃ e:Int,Lej k x.t=some e∧Lfz k x.t=some e:=fun x hx=>Kbq n k x (g3 x hx) (by have:=Kaz (c:=.mk K nm op v l) hx;omega) (by omega)
   obtain⟨e,e1,e2⟩:=Kbp k (by omega) (CC.mk K nm op v l).t _ hu g1 g2
   rw[e2]
   simp only[Lfz]
   rw[e1,hu,bi_some]
   by_cases h0:e=0
   ·subst h0
    obtain⟨r,r1,r2⟩:=Lmn (f:=fun i44 x46 s45=>bi (Lej k x46) fun y55=>bif (y55:Int) != 0 then(bi (some y55) fun v=>some (.out v)) else(some (.go ()))) (g:=fun i7 x9 s8=>bi (Lfz k x9) fun y18=>bif (y18:Int) != 0 then(bi (some y18) fun v=>some (.out v)) else(some (.go ()))) l 0 (fun x hx=>by
     obtain⟨e,h1,h2⟩:=hkid x hx
     refine⟨e,fun i=>?_⟩
     rw[h1,h2,bi_some,bi_some]
     by_cases he:e=0
     ·subst he;exact⟨rfl,rfl⟩
     rw[show((e:Int) != 0)=true by simpa using he,if_neg he];exact⟨rfl,rfl⟩)
    rw[if_pos rfl]
    unfold kidsP
    rw[show((0:Int) != 0)=false from rfl,cond_false,bi_some,show(CC.mk K nm op v l).kids=l from rfl,r1,r2]
    cases r with
    | go _=>exact⟨0,rfl,rfl⟩
    | out v=>exact⟨v,rfl,rfl⟩
   rw[if_neg h0,show((e:Int) != 0)=true by simpa using h0]
   exact⟨e,rfl,rfl⟩
theorem Kbr(k:Nat)(c:CC)(hg:c.Gd)(hk:c.dp+50010<k):∃ e,Lek k c.t=some e∧Lga k c.t=some e:=by
 obtain⟨n,d,s1,s2,s3⟩:=Kba k c (by omega)
 obtain⟨e,e1,e2⟩:=Kbq c.dp k c hg (Nat.le_refl _) hk
 unfold Lek Lga
 rw[s3,s1,s2,e1,e2]
 simp only[bi_some]
 cases decide ((n:Int)>100) with
 | true=>exact⟨2,rfl,rfl⟩
 | false=>
  cases hd:decide ((d:Int)>30) with
  | true=>exact⟨2,by simp,by simp⟩
  | false=>exact⟨e,by simp,by simp⟩
end Go.Gk
