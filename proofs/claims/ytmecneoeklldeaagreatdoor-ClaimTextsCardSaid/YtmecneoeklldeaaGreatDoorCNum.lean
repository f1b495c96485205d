import Derived.Test.YtmecneoeklldeaaGreatDoorCOk
import Derived.Lib.SplitLaws
set_option linter.all false
set_option maxRecDepth 100000
namespace Go.Gk
theorem Kbi(n a b:Int):Kyk n a b=some (decide (a≤n∧n≤b)):=by
 unfold Kyk
 congr 1
 rw[Bool.eq_iff_iff]
 simp
theorem Kbj(p:UInt8→Bool):∀ l:Str,l.dropWhile p=[] ↔ ∀ x∈l,p x=true
 | []=>by simp
 | x :: r=>by
  rw[List.dropWhile_cons]
  cases h:p x with
  | true=>simp[h,Kbj p r]
  | false=>simp[h]
theorem Kbk(t cs:Str):(Lib.trimS t cs==[])=t.all fun c=>cs.contains c:=by
 rw[Bool.eq_iff_iff,beq_iff_eq,lAe]
 unfold Lib.trimS Lib.trimLeftS
 rw[Kbj]
 unfold Lib.trimRightS
 constructor
 ·intro h x hx
  have hs:t.reverse=t.reverse.takeWhile (cs.contains ·)++t.reverse.dropWhile (cs.contains ·):=(List.takeWhile_append_dropWhile).symm
  have hx':x∈t.reverse:=List.mem_reverse.2 hx
  rw[hs,List.mem_append] at hx'
  rcases hx' with hx' | hx'
  ·have:=lAe.1 (List.all_takeWhile (p:=(cs.contains ·)) (l:=t.reverse)) x hx'
   exact this
  exact h x (List.mem_reverse.2 hx')
 intro h x hx
 have:=(List.dropWhile_sublist (cs.contains ·)).subset (List.mem_reverse.1 hx)
 exact h x (List.mem_reverse.1 this)
def dgs:Str:=[48,49,50,51,52,53,54,55,56,57]
def isD(c:UInt8):Bool:=decide (48≤c.toNat)&&decide (c.toNat≤57)
theorem Kbl(c:UInt8):dgs.contains c=isD c:=by
 have key:∀ n:Fin 256,dgs.contains (UInt8.ofNat n.val)=isD (UInt8.ofNat n.val):=by decide +kernel
 have:=key ⟨c.toNat,c.toNat_lt⟩
 simpa only[UInt8.ofNat_toNat] using this
theorem Kbm{c:UInt8}(h:isD c=true):∃ d,d<10∧Lib.digitVal c=some d∧c=UInt8.ofNat (48+d)∧(c==45)=false∧(c==43)=false∧(d=0 ↔ c=48):=by
 have key:∀ n:Fin 256,isD (UInt8.ofNat n.val)=true→(UInt8.ofNat n.val).toNat - 48<10∧Lib.digitVal (UInt8.ofNat n.val)=some ((UInt8.ofNat n.val).toNat - 48)∧UInt8.ofNat n.val=UInt8.ofNat (48+((UInt8.ofNat n.val).toNat - 48))∧(UInt8.ofNat n.val==45)=false∧(UInt8.ofNat n.val==43)=false∧((UInt8.ofNat n.val).toNat - 48=0 ↔ UInt8.ofNat n.val=48):=by decide +kernel
 have:=key ⟨c.toNat,c.toNat_lt⟩
 simp only[UInt8.ofNat_toNat] at this
 exact⟨_,this h⟩
theorem Kbn:∀ (t:Str) (acc:Nat),t.all isD=true→∃ n,Lib.decFrom acc t=some n∧n<(acc+1) * 10 ^ t.length∧(1≤acc→Lib.decDigits n=Lib.decDigits acc++t)∧acc≤n
 | [],acc,_=>⟨acc,rfl,by simp,fun _=>by simp,Nat.le_refl _⟩
 | c :: t,acc,h=>by
  rw[List.all_cons,Bool.and_eq_true] at h
  obtain⟨d,d1,d2,d3,_⟩:=Kbm h.1
  obtain⟨n,n1,n2,n3,n4⟩:=Kbn t (acc * 10+d) h.2
  refine⟨n,by simp only[Lib.decFrom,d2,n1],nLl n2 ?_,fun ha=>?_,by omega⟩
  ·rw[List.length_cons,Nat.pow_succ,Nat.mul_comm (10 ^ t.length),←Nat.mul_assoc]
   exact Nat.mul_le_mul_right _ (by omega)
  rw[n3 (by omega)]
  have:Lib.decDigits (acc * 10+d)=Lib.decDigits acc++[c]:=by
   rw[Lib.decDigits,dif_neg (by omega),show(acc * 10+d) / 10=acc by omega,show(acc * 10+d) % 10=d by omega,d3]
  rw[this,List.append_assoc];rfl
theorem Kbo:∀ n:Nat,1≤n→(Lib.decDigits n)[0]?≠some 48:=by
 intro n
 induction n using Nat.strongRecOn with
 | _ n ih=>
  intro h
  by_cases h10:n<10
  ·rw[Lib.decDigits,dif_pos h10]
   have:∀ m:Fin 10,1≤m.val→([UInt8.ofNat (48+m.val)]:Str)[0]?≠some 48:=by decide
   exact this ⟨n,h10⟩ h
  rw[Lib.decDigits,dif_neg h10]
  have hne:Lib.decDigits (n / 10)≠[]:=by
   rw[Lib.decDigits];split
   ·simp
   simp
  rw[gAl (List.length_pos_iff.2 hne)]
  exact ih (n / 10) (by omega) (by omega)
theorem Kbp{t:Str}(hn:t≠[])(h:t.all isD=true):∃ n:Nat,Lib.decNat t=some n∧n<10 ^ t.length∧(Lib.decDigits n=t ↔ (t.length=1∨t[0]?≠some 48))∧(n=0→t[0]?=some 48):=by
 match t,hn,h with
 | c :: r,_,h=>
  rw[List.all_cons,Bool.and_eq_true] at h
  obtain⟨d,d1,d2,d3,_,_,d6⟩:=Kbm h.1
  obtain⟨n,n1,n2,n3,n4⟩:=Kbn r d h.2
  have e0:Lib.decNat (c :: r)=some n:=by
   unfold Lib.decNat
   rw[if_neg (by simp)]
   simp only[Lib.decFrom,d2,Nat.zero_mul,Nat.zero_add]
   exact n1
  have hlt:n<10 ^ (c :: r).length:=by
   rw[List.length_cons,Nat.pow_succ,Nat.mul_comm]
   exact nLl n2 (Nat.mul_le_mul_right _ (by omega))
  by_cases hd:d=0
  ·have hc:=d6.1 hd
   subst hc
   subst hd
   refine⟨n,e0,hlt,?_,fun _=>rfl⟩
   match r with
   | []=>
    simp only[Lib.decFrom] at n1
    cases n1
    exact⟨fun _=>.inl rfl,fun _=>by decide +kernel⟩
   | x :: r=>
    refine⟨fun he=>?_,fun h=>?_⟩
    ·exfalso
     by_cases hn0:n=0
     ·subst hn0
      have:=congrArg List.length he
      rw[show Lib.decDigits 0=[48] by decide +kernel] at this
      simp at this
     have:=Kbo n (by omega)
     rw[he] at this
     exact this rfl
    rcases h with h | h
    ·simp at h
    exact absurd rfl h
  refine⟨n,e0,hlt,?_,fun h0=>by omega⟩
  have:Lib.decDigits n=c :: r:=by
   rw[n3 (by omega),Lib.decDigits,dif_pos d1,←d3];rfl
  refine⟨fun _=>.inr ?_,fun _=>this⟩
  intro h48
  have:c=48:=by simpa using h48
  exact hd (d6.2 this)
theorem Kbq(u:Nat):Lib.itoa (u:Int)=Lib.decDigits u:=by unfold Lib.itoa;rw[if_neg (by omega)];simp
theorem Kbr(u:Nat)(h:1≤u):Lib.itoa (-(u:Int))=45 :: Lib.decDigits u:=by unfold Lib.itoa;rw[if_pos (by omega)];simp
def numB(s:Str)(most:Nat):Bool:=!(Lib.trimPrefix s [45]==[])&&(decide ((Lib.trimPrefix s [45]).length≤most)&&((Lib.trimPrefix s [45]).all isD&&!(((Lib.trimPrefix s [45])[0]?==some 48)&&!(s==[48]))))
def numV(s:Str):Int:=(Lib.atoi s).getD 0
theorem Lel(s:Str):(Lib.trimPrefix s [45]=s∧s[0]?≠some 45)∨s=45 :: Lib.trimPrefix s [45]:=by
 unfold Lib.trimPrefix
 match s with
 | []=>exact .inl ⟨rfl,by simp⟩
 | c :: r=>
  by_cases hc:c=45
  ·subst hc;exact .inr rfl
  refine .inl ⟨?_,by simpa using hc⟩
  simp[Lib.hasPrefix,hc]
  intro h
  exact absurd h.symm hc
theorem Kbs{s:Str}{m:Nat}(hm:m≤9)(hne:Lib.trimPrefix s [45]≠[])(hl:(Lib.trimPrefix s [45]).length≤m)(hd:(Lib.trimPrefix s [45]).all isD=true) :
  ∃ n:Int,Lib.atoi s=some n∧-(10 ^ m:Nat)<n∧n<(10 ^ m:Nat)∧(Lib.itoa n=s ↔ ¬ ((Lib.trimPrefix s [45])[0]?=some 48∧s≠[48])):=by
 obtain⟨n,n1,n2,n3,n4⟩:=Kbp hne hd
 have hp:n<10 ^ m:=nLl n2 (Nat.pow_le_pow_right (by decide) hl)
 rcases Lel s with⟨h1,h2⟩ | h1
 ·rw[h1] at hne hl hd n1 n3 n4 ⊢
  have ha:Lib.atoi s=some (n:Int):=by
   match s,hne,hd,h2,n1 with
   | c :: r,_,hd,_,n1=>
    rw[List.all_cons,Bool.and_eq_true] at hd
    obtain⟨_,_,_,_,e1,e2,_⟩:=Kbm hd.1
    simp only[Lib.atoi,e1,e2,n1]
    rfl
  refine⟨n,ha,by omega,by omega,?_⟩
  rw[Kbq,n3]
  constructor
  ·rintro(h | h) ⟨h0,h48⟩
   ·match s,h with
    | [c],_=>simp at h0;subst h0;exact h48 rfl
   ·exact h h0
  ·intro h
   by_cases h0:s[0]?=some 48
   ·have:s=[48]:=by
     by_cases hs:s=[48]
     ·exact hs
     ·exact absurd ⟨h0,hs⟩ h
    rw[this];exact .inl rfl
   ·exact .inr h0
 ·generalize Lib.trimPrefix s [45]=t at *
  subst h1
  have ha:Lib.atoi (45 :: t)=some (-(n:Int)):=by
   simp only[Lib.atoi,n1]
   rfl
  refine⟨-(n:Int),ha,by omega,by omega,?_⟩
  by_cases hn0:n=0
  ·subst hn0
   refine⟨fun h=>?_,fun h=>absurd ⟨n4 rfl,by simp⟩ h⟩
   rw[show Lib.itoa (-((0:Nat):Int))=[48] by decide +kernel] at h
   simp at h
  ·rw[Kbr n (by omega)]
   constructor
   ·intro h
    rintro⟨h0,_⟩
    have:Lib.decDigits n=t:=by simpa using h
    have h2:=Kbo n (by omega)
    rw[this] at h2
    exact h2 h0
   ·intro h
    have:t[0]?≠some 48:=fun h0=>h ⟨h0,by simp⟩
    rw[n3.2 (.inr this)]
theorem Kbt{s:Str}{m:Nat}(hm:m≤9)(hl:(Lib.trimPrefix s [45]).length≤m){n:Int}(h:Lib.atoi s=some n):Kpu s=some n:=by
 unfold Kpu
 have:s.length≤18:=by
  rcases Lel s with⟨h1,_⟩ | h1
  ·rw[h1] at hl;omega
  have:=congrArg List.length h1;simp at this;omega
 rw[Nat.ble_eq_true_of_le this]
 exact h
theorem Kbu(s cs:Str)(hs:s.length≤1000000)(hc:(Nat.blt cs.length 4294967281&&cs.all fun b=>Nat.blt b.toNat 128)=true):Kym s cs=some (s.all fun c=>cs.contains c):=by
 unfold Kym Kph
 rw[Nat.ble_eq_true_of_le (show s.length≤1099511627776 by omega),hc]
 show some (Lib.trimS s cs==[])=_
 rw[Kbk]
theorem Kbv{n:Int}(h1 : -9223372036854775808≤n)(h2:n≤9223372036854775807):Kpq n=some (Lib.itoa n):=by
 unfold Kpq
 rw[dT h1,dT h2]
 rfl
theorem numR(s:Str)(m:Nat)(hm:m≤9)(hs:s.length≤100000):∃ n,Kzo s (m:Int)=some (n,numB s m)∧(numB s m=true→n=numV s):=by
 unfold Kzo numB
 have htl:(Lib.trimPrefix s [45]).length≤100000:=by
  rcases Lel s with⟨h1,_⟩ | h1
  ·rw[h1];exact hs
  have:=congrArg List.length h1;simp at this;omega
 rw[show Kpe s [45]=some (Lib.trimPrefix s [45]) from rfl,bi_some]
 cases h1:(Lib.trimPrefix s [45]==[]) with
 | true=>exact⟨0,rfl,fun h=>by simp at h⟩
 | false=>
  have hne:Lib.trimPrefix s [45]≠[]:=by simpa using h1
  by_cases hl:(Lib.trimPrefix s [45]).length≤m
  ·rw[dF (show ¬ ((Lib.trimPrefix s [45]).length:Int)>(m:Int) by omega),dT hl]
   simp only[Bool.or_self,cond_false]
   have e:=Kbu (Lib.trimPrefix s [45]) dgs (by omega) (by decide)
   rw[show([48,49,50,51,52,53,54,55,56,57]:Str)=dgs from rfl,e,show(fun c=>dgs.contains c)=isD from funext Kbl]
   cases h2:(Lib.trimPrefix s [45]).all isD with
   | false=>exact⟨0,rfl,fun h=>by simp at h⟩
   | true=>
    obtain⟨n,n1,n2,n3,n4⟩:=Kbs hm hne hl h2
    have hpow:(10 ^ m:Nat)≤10 ^ 9:=Nat.pow_le_pow_right (by decide) hm
    have hp9:(10 ^ 9:Nat)=1000000000:=by decide
    simp only[bi_some,Bool.not_true,cond_false,Kbt hm hl n1,Kbv (n:=n) (by omega) (by omega)]
    refine⟨n,?_,fun _=>by simp[numV,n1]⟩
    congr 2
    rw[Bool.eq_iff_iff]
    simp only[beq_iff_eq,Bool.true_and,Bool.and_true,Bool.not_false,Bool.not_eq_true',Bool.and_eq_false_iff,n4]
    simp only[Bool.not_eq_false',beq_eq_false_iff_ne,beq_iff_eq,ne_eq]
    constructor
    ·intro h
     by_cases h0:(Lib.trimPrefix s [45])[0]?=some 48
     ·exact .inr (Classical.byContradiction fun hh=>h ⟨h0,hh⟩)
     exact .inl h0
    rintro(h | h) ⟨h3,h4⟩
    ·exact h h3
    exact h4 h
  rw[dT (show((Lib.trimPrefix s [45]).length:Int)>(m:Int) by omega),dF hl]
  exact⟨0,rfl,fun h=>by simp at h⟩
def dLoop(y1:Str)(s12:Int):Option (LS Int (Unit ⊕ (Int×Bool))):=bif decide ((s12:Int)<(y1.length:Int)) then(bi (getZ y1 s12) fun c22=>bi (bif decide (((c22.toNat:Int):Int)<48) then(some true) else(bi (getZ y1 s12) fun c28=>some (decide (((c28.toNat:Int):Int)>57)))) fun q24=>bif q24 then(bi (some (0,false)) fun v=>some (.out (.inr v))) else(some (.go (wi (s12+1))))) else(some (.out (.inl ())))
theorem Kbw(y:Str)(hl:y.length≤100):∀ (n k i:Nat),n=y.length - i→i≤y.length→n<k→loopM (dLoop y) k (i:Int)=some (if (y.drop i).all isD then .inl () else .inr (0,false))
 | n,0,i,_,_,h=>absurd h (Nat.not_lt_zero _)
 | n,k+1,i,hn,hi,hk=>by
  by_cases he:i<y.length
  ·have hg:getZ y (i:Int)=some y[i]:=Kth (gGe he)
   have hdr:y.drop i=y[i] :: y.drop (i+1):=List.drop_eq_getElem_cons he
   have hstep:dLoop y (i:Int)=some (if isD y[i] then .go ((i+1:Nat):Int) else .out (.inr (0,false))):=by
    unfold dLoop
    rw[dT (show(i:Int)<(y.length:Int) by omega)]
    simp only[cond_true,hg,bi_some]
    unfold isD
    by_cases h1:48≤y[i].toNat
    ·rw[dF (show ¬ (y[i].toNat:Int)<48 by omega),dT h1]
     simp only[cond_false,bi_some,Bool.true_and]
     by_cases h2:y[i].toNat≤57
     ·rw[dF (show ¬ (y[i].toNat:Int)>57 by omega),dT h2]
      simp only[cond_false,if_true]
      rw[Kss (by omega) (by omega)]
      rfl
     rw[dT (show(y[i].toNat:Int)>57 by omega),dF h2]
     rfl
    rw[dT (show(y[i].toNat:Int)<48 by omega),dF h1]
    rfl
   rw[hdr,List.all_cons]
   simp only[loopM,hstep]
   cases hD:isD y[i] with
   | false=>rfl
   | true=>
    simp only[if_true,Bool.true_and]
    exact Kbw y hl (n - 1) k (i+1) (by omega) (by omega) (by omega)
  have:y.drop i=[]:=List.drop_eq_nil_of_le (by omega)
  rw[this]
  simp only[loopM]
  unfold dLoop
  rw[dF (show ¬ (i:Int)<(y.length:Int) by omega)]
  rfl
theorem Kbx(k:Nat)(s:Str)(most:Int):Kyz k s most=bi (Kpe s [45]) fun y1=>bi (bif (((y1:Str)==[])||(decide (((y1.length:Int):Int)>most))) then(some true) else(bi (getZ y1 0) fun c7=>some ((((c7.toNat:Int):Int)==48)&&(!((s:Str)==[48]))))) fun q3=>bif q3 then(some (0,false)) else(bi (loopM (dLoop y1) k 0) fun q=>orI q fun a16=>bi (Kpu s) fun y35=>some (y35,true)):=rfl
theorem numP(k:Nat)(hk:100<k)(s:Str)(m:Nat)(hm:m≤9):∃ n,Kyz k s (m:Int)=some (n,numB s m)∧(numB s m=true→n=numV s):=by
 rw[Kbx]
 unfold numB
 rw[show Kpe s [45]=some (Lib.trimPrefix s [45]) from rfl,bi_some]
 cases h1:(Lib.trimPrefix s [45]==[]) with
 | true=>exact⟨0,rfl,fun h=>by simp at h⟩
 | false=>
  have hne:Lib.trimPrefix s [45]≠[]:=by simpa using h1
  by_cases hl:(Lib.trimPrefix s [45]).length≤m
  ·rw[dF (show ¬ ((Lib.trimPrefix s [45]).length:Int)>(m:Int) by omega),dT hl]
   simp only[Bool.or_self,cond_false]
   have h0:∃ c,(Lib.trimPrefix s [45])[0]?=some c:=⟨_,gGe (List.length_pos_iff.2 hne)⟩
   obtain⟨c,hc⟩:=h0
   rw[show(0:Int)=((0:Nat):Int) from rfl,Kth hc,bi_some,bi_some,hc]
   have hc48:(((c.toNat:Int))==48)=((some c:Option UInt8)==some 48):=by
    rw[Bool.eq_iff_iff]
    simp only[beq_iff_eq,Option.some.injEq]
    constructor
    ·intro h;exact UInt8.toNat_inj.1 (by show c.toNat=48;omega)
    intro h;subst h;rfl
   rw[hc48]
   cases h3:((some c:Option UInt8)==some 48&&!(s==[48])) with
   | true=>exact⟨0,by simp,fun h=>by simp at h⟩
   | false=>
    simp only[cond_false]
    rw[Kbw (Lib.trimPrefix s [45]) (by omega) _ k 0 rfl (Nat.zero_le _) (by omega),List.drop_zero]
    cases h2:(Lib.trimPrefix s [45]).all isD with
    | false=>exact⟨0,rfl,fun h=>by simp at h⟩
    | true=>
     obtain⟨n,n1,n2,n3,n4⟩:=Kbs hm hne hl h2
     refine⟨n,?_,fun _=>by simp[numV,n1]⟩
     simp only[if_true,bi_some,orI,Kbt hm hl n1]
     rfl
  rw[dT (show((Lib.trimPrefix s [45]).length:Int)>(m:Int) by omega),dF hl]
  exact⟨0,rfl,fun h=>by simp at h⟩
theorem Kby{s:Str}{m:Nat}(hm:m≤9)(h:numB s m=true):Lib.itoa (numV s)=s∧-(10 ^ m:Nat)<numV s∧numV s<(10 ^ m:Nat):=by
 unfold numB at h
 simp only[Bool.and_eq_true,Bool.not_eq_true',beq_eq_false_iff_ne,decide_eq_true_eq] at h
 obtain⟨h1,h2,h3,h4⟩:=h
 obtain⟨n,n1,n2,n3,n4⟩:=Kbs hm h1 h2 h3
 have hv:numV s=n:=by simp[numV,n1]
 rw[hv]
 refine⟨n4.2 fun ⟨a,b⟩=>?_,n2,n3⟩
 simp[a,b] at h4
def lows:Str:=[97,98,99,100,101,102,103,104,105,106,107,108,109,110,111,112,113,114,115,116,117,118,119,120,121,122]
def keys:Str:=[97,98,99,100,101,102,103,104,105,106,107,108,109,110,111,112,113,114,115,116,117,118,119,120,121,122,48,49,50,51,52,53,54,55,56,57,45,95]
def kB(i:Int)(c:UInt8):Bool:=(((decide (((c.toNat:Int):Int)≥97))&&(decide (((c.toNat:Int):Int)≤122)))||((decide ((i:Int)>0))&&((((decide (((c.toNat:Int):Int)≥48))&&(decide (((c.toNat:Int):Int)≤57)))||(((c.toNat:Int):Int)==45))||(((c.toNat:Int):Int)==95))))
theorem Kbz:∀ c:Fin 256,kB 0 (UInt8.ofNat c.val)=lows.contains (UInt8.ofNat c.val)∧kB 1 (UInt8.ofNat c.val)=keys.contains (UInt8.ofNat c.val)∧(lows.contains (UInt8.ofNat c.val)=true→keys.contains (UInt8.ofNat c.val)=true):=by decide +kernel
theorem Kca(c:UInt8):kB 0 c=lows.contains c∧(lows.contains c=true→keys.contains c=true):=by
 have:=Kbz ⟨c.toNat,c.toNat_lt⟩
 rw[UInt8.ofNat_toNat] at this
 exact⟨this.1,this.2.2⟩
theorem Kcb(i:Nat)(h:0<i)(c:UInt8):kB (i:Int) c=keys.contains c:=by
 have:=(Kbz ⟨c.toNat,c.toNat_lt⟩).2.1
 rw[UInt8.ofNat_toNat] at this
 rw[←this]
 unfold kB
 rw[dT (show(i:Int)>0 by omega),dT (show(1:Int)>0 by decide)]
def kLoop(s:Str)(s2:Int):Option (LS Int (Unit ⊕ Bool)):=bif decide ((s2:Int)<(s.length:Int)) then(bi (getZ s s2) fun c12=>bif !(kB s2 c12) then(bi (some false) fun v=>some (.out (.inr v))) else(some (.go (wi (s2+1))))) else(some (.out (.inl ())))
theorem Kcc(k:Nat)(s:Str):Kxu k s=bi (loopM (kLoop s) k 0) fun q=>orI q fun a6=>some ((!((s:Str)==[]))&&(decide (((s.length:Int):Int)≤40))):=rfl
theorem Kcd(s:Str)(hl:s.length≤100000)(i:Nat)(hi:i<s.length):kLoop s (i:Int)=some (if kB (i:Int) s[i] then .go ((i+1:Nat):Int) else .out (.inr false)):=by
 have hg:getZ s (i:Int)=some s[i]:=Kth (gGe hi)
 unfold kLoop
 rw[dT (show(i:Int)<(s.length:Int) by omega),cond_true,Kct hg,Kss (by omega) (by omega)]
 cases kB (i:Int) s[i]<;>rfl
theorem Kce(s:Str):kLoop s (s.length:Int)=some (.out (.inl ())):=by
 unfold kLoop
 rw[dF (show ¬ (s.length:Int)<(s.length:Int) by omega)]
 rfl
theorem Kcf(s:Str)(hl:s.length≤100000):∀ (n k i:Nat),n=s.length - i→0<i→i≤s.length→n<k→loopM (kLoop s) k (i:Int)=some (if (s.drop i).all (fun c=>keys.contains c) then .inl () else .inr false)
 | n,0,i,_,_,_,h=>absurd h (Nat.not_lt_zero _)
 | n,k+1,i,hn,h0,hi,hk=>by
  by_cases he:i<s.length
  ·have hdr:s.drop i=s[i] :: s.drop (i+1):=List.drop_eq_getElem_cons he
   have hstep:=Kcd s hl i he
   rw[Kcb i h0] at hstep
   rw[hdr,List.all_cons]
   cases hD:keys.contains s[i] with
   | false=>
    rw[hD] at hstep
    exact Kcs _ hstep
   | true=>
    rw[hD] at hstep
    rw[Kcr _ hstep,Bool.true_and]
    exact Kcf s hl (n - 1) k (i+1) (by omega) (by omega) (by omega) (by omega)
  have:i=s.length:=by omega
  subst this
  rw[List.drop_length]
  exact Kcs _ (Kce s)
def keyB(s:Str):Bool:=decide (1≤s.length∧s.length≤40)&&((s.take 1).all (fun c=>lows.contains c)&&s.all (fun c=>keys.contains c))
theorem keyP(k:Nat)(s:Str)(hs:s.length≤50000)(hk:s.length+1<k):Kxu k s=some (keyB s):=by
 rw[Kcc]
 obtain⟨k,rfl⟩:∃ k',k=k'+1:=⟨k - 1,by omega⟩
 cases s with
 | nil=>rfl
 | cons c t=>
  have h1:kLoop (c :: t) 0=some (if lows.contains c=true then .go ((1:Nat):Int) else .out (.inr false)):=by
   refine(Kcd (c :: t) (by omega) 0 (by simp)).trans ?_
   show some (if kB 0 c=true then LS.go ((1:Nat):Int) else LS.out (Sum.inr false))=_
   rw[(Kca c).1]
  unfold keyB
  simp only[List.take_succ_cons,List.take_zero,List.all_cons,List.all_nil,Bool.and_true]
  cases hc:lows.contains c with
  | false=>
   rw[hc] at h1
   rw[Kct (Kcs _ h1),Bool.false_and,Bool.and_false]
   rfl
  | true=>
   rw[hc] at h1
   have h2:=Kcf (c :: t) (by omega) ((c :: t).length - 1) k 1 rfl (by decide) (by simp) (by simp at hk ⊢;omega)
   rw[List.drop_one,List.tail_cons] at h2
   rw[Kct ((Kcr _ h1).trans h2),(Kca c).2 hc,Bool.true_and,Bool.true_and]
   cases t.all fun c=>keys.contains c with
   | false=>rw[Bool.and_false];rfl
   | true=>
    rw[Bool.and_true]
    show some ((!((c :: t:Str)==[]))&&(decide ((((c :: t).length:Int):Int)≤40)))=_
    rw[Kcu,dF (show ¬ (c :: t).length=0 by simp)]
    congr 1
    rw[Bool.not_false,Bool.true_and]
    refine decide_eq_decide.2 ?_
    simp only[List.length_cons]
    omega
theorem keyR(s:Str)(hs:s.length≤50000):Kyn s=some (keyB s):=by
 unfold Kyn keyB
 rw[Kct (Kbi _ 1 40)]
 by_cases h:1≤s.length∧s.length≤40
 ·rw[dT h,dT (show(1:Int)≤(s.length:Int)∧(s.length:Int)≤40 by omega),cond_true]
  have h1:subZ s 0 1=some (s.take 1):=by
   have:=Ktg (l:=s) (i:=0) (j:=1) (by decide) h.1
   simpa using this
  have h2:=Kbu (s.take 1) lows (by simp;omega) (by decide)
  have h3:=Kbu s keys (by omega) (by decide)
  rw[Kct h1]
  rw[show Kym (s.take 1) [97,98,99,100,101,102,103,104,105,106,107,108,109,110,111,112,113,114,115,116,117,118,119,120,121,122]=_ from h2]
  cases (s.take 1).all fun c=>lows.contains c with
  | false=>rfl
  | true=>
   simp only[bi_some,cond_true,Bool.true_and]
   rw[show Kym s [97,98,99,100,101,102,103,104,105,106,107,108,109,110,111,112,113,114,115,116,117,118,119,120,121,122,48,49,50,51,52,53,54,55,56,57,45,95]=_ from h3]
   rfl
 rw[dF h,dF (show ¬ ((1:Int)≤(s.length:Int)∧(s.length:Int)≤40) by omega)]
 rfl
theorem Kcg{c:UInt8}:∀ {s:Str},(∀ b∈s,b≠c)→Lib.indexByte s c=-1
 | [],_=>rfl
 | b :: s,h=>by
  have h1:(b==c)=false:=by simpa using h b mCs
  have ih:=Kcg (s:=s) fun c hc=>h c (mCo _ hc)
  simp[Lib.indexByte,h1,ih]
theorem Kch{c:UInt8}:∀ {x:Str} (t:Str),(∀ b∈x,b≠c)→Lib.indexByte (x++c :: t) c=(x.length:Int)
 | [],t,_=>by simp[Lib.indexByte]
 | b :: x,t,h=>by
  have h1:(b==c)=false:=by simpa using h b mCs
  have ih:=Kch (x:=x) t fun c hc=>h c (mCo _ hc)
  simp only[List.cons_append,Lib.indexByte,h1,ih,List.length_cons]
  rw[if_neg (by decide),if_neg (by simp)]
  omega
theorem Kci{c:UInt8}{s:Str}(h:∀ b∈s,b≠c):Lib.split s [c]=[s]:=by
 unfold Lib.split
 rw[Lib.count_one,List.count_eq_zero_of_not_mem fun hm=>h _ hm rfl]
 rfl
theorem Kcj{c:UInt8}{x:Str}(t:Str)(h:∀ b∈x,b≠c):Lib.split (x++c :: t) [c]=x :: Lib.split t [c]:=by
 unfold Lib.split
 rw[Lib.count_one,Lib.count_one,List.count_append,List.count_eq_zero_of_not_mem fun hm=>h _ hm rfl,List.count_cons_self,Nat.zero_add]
 have e:Lib.index (x++c :: t) [c]=(x.length:Int):=by rw[Lib.index_one];exact Kch t h
 conv=>lhs;unfold Lib.splitK
 rw[e,if_neg (by simp)]
 simp
theorem Kck(c:UInt8):∀ s:Str,(∀ b∈s,b≠c)∨∃ x t,s=x++c :: t∧∀ b∈x,b≠c
 | []=>.inl fun b hb=>by cases hb
 | a :: s=>by
  by_cases ha:a=c
  ·exact .inr ⟨[],s,by rw[ha];rfl,fun b hb=>by cases hb⟩
  rcases Kck c s with h | ⟨x,t,h1,h2⟩
  ·refine .inl fun b hb=>?_
   rcases List.mem_cons.1 hb with rfl | hb
   ·exact ha
   exact h b hb
  refine .inr ⟨a :: x,t,by rw[h1];rfl,fun b hb=>?_⟩
  rcases List.mem_cons.1 hb with rfl | hb
  ·exact ha
  exact h2 b hb
theorem Kcl(c:UInt8)(s:Str):Lib.split s [c]≠[]:=by
 rcases Kck c s with h | ⟨x,t,h1,h2⟩
 ·rw[Kci h];simp
 rw[h1,Kcj t h2];simp
theorem Kcm(c:UInt8):∀ (n:Nat) (s:Str),s.length≤n→(∀ x∈Lib.split s [c],x.length≤s.length∧∀ b∈x,b∈s∧b≠c)∧(∀ b∈s,b=c∨∃ x∈Lib.split s [c],b∈x)∧(Lib.split s [c]).length≤s.length+1
 | n,s,hn=>by
  rcases Kck c s with h | ⟨x,t,h1,h2⟩
  ·rw[Kci h]
   refine⟨fun x hx=>?_,fun b hb=>.inr ⟨s,by simp,hb⟩,by simp⟩
   rw[List.mem_singleton.1 hx]
   exact⟨Nat.le_refl _,fun b hb=>⟨hb,h b hb⟩⟩
  have hl:s.length=x.length+1+t.length:=by rw[h1];simp;omega
  match n with
  | 0=>omega
  | n+1=>
   obtain⟨i1,i2,i3⟩:=Kcm c n t (by omega)
   rw[h1,Kcj t h2]
   refine⟨fun y hy=>?_,fun b hb=>?_,?_⟩
   ·rcases List.mem_cons.1 hy with rfl | hy
    ·exact⟨by simp,fun b hb=>⟨by simp[hb],h2 b hb⟩⟩
    obtain⟨j1,j2⟩:=i1 y hy
    exact⟨by simp;omega,fun b hb=>⟨by simp[(j2 b hb).1],(j2 b hb).2⟩⟩
   ·rw[List.mem_append,List.mem_cons] at hb
    rcases hb with hb | rfl | hb
    ·exact .inr ⟨x,by simp,hb⟩
    ·exact .inl rfl
    rcases i2 b hb with h | ⟨y,hy,h⟩
    ·exact .inl h
    exact .inr ⟨y,by simp[hy],h⟩
   simp;omega
theorem Kcn{c:UInt8}{s:Str}:decide (0≤Lib.indexByte s c)=s.contains c:=by
 rcases Kck c s with h | ⟨x,t,h1,h2⟩
 ·rw[Kcg h]
  have:s.contains c=false:=Bool.eq_false_iff.2 fun hc=>h c (List.contains_iff_mem.1 hc) rfl
  rw[this];rfl
 rw[h1,Kch t h2,dT (by omega)]
 simp
theorem Kco(c:UInt8){s:Str}(h:s.length≤1000000):Kpi s [c]=some (Lib.split s [c]):=by
 unfold Kpi
 rw[show Nat.blt s.length 4294967281=true from by rw[Nat.blt_eq];omega]
 rfl
theorem Kcp{a b:Str}(h:a.length+b.length≤9223372036854775807):catZ a b=some (a++b):=by unfold catZ;rw[Nat.ble_eq_true_of_le h];rfl
theorem Kcq(n:Int):(runeS n).length≤4:=by
 unfold runeS Utf8.encode
 simp only
 repeat' split
 all_goals simp
theorem Lem(l:List Int)(a:Int)(t w:Str)(hl:l.length≤9223372036854775807)(h0:0≤a)(h1:a<4611686018427300000)(ht:t.length≤35000)(hw:1≤w.length∧w.length≤100) :
  ∃ r a',r.length≤t.length+100∧a≤a'∧a'≤a+3∧Kyu ⟨l,a⟩ t w=some (r,⟨l,a'⟩):=by
 unfold Kyu
 cases he:((t==[])||(w==[])) with
 | true=>exact⟨w,a,by omega,by omega,by omega,rfl⟩
 | false=>
  rw[Bool.or_eq_false_iff] at he
  have htn:t≠[]:=by simpa using he.1
  have htl:=List.length_pos_iff.2 htn
  obtain⟨i,i0,i1,hi⟩:=Ksu l a (t.length:Int) hl h0 (by omega) (by omega) (by omega)
  obtain⟨j,j0,j1,hj⟩:=Ksu l (a+1) (w.length:Int) hl (by omega) (by omega) (by omega) (by omega)
  obtain⟨c,_,hc⟩:=Ksw w j0 j1
  obtain⟨k,k0,k1,hk⟩:=Ksu l (a+1+1) 3 hl (by omega) (by omega) (by decide) (by decide)
  have hsub:∀ lo hi:Int,0≤lo→lo≤hi→hi≤(t.length:Int)→∃ z:Str,subZ t lo hi=some z∧z.length≤(hi - lo).toNat:=fun lo hi h1 h2 h3=>by
   unfold subZ
   rw[dT h1,dT h2,dT h3]
   refine⟨_,rfl,?_⟩
   simp;omega
  have hw1:wi (i+1)=i+1:=Kss (by omega) (by omega)
  obtain⟨z1,s1,n1⟩:=hsub 0 i (by omega) i0 (by omega)
  obtain⟨z2,s2,n2⟩:=hsub (i+1) (t.length:Int) (by omega) (by omega) (by omega)
  obtain⟨z3,s3,n3⟩:=hsub i (t.length:Int) (by omega) (by omega) (by omega)
  simp only[cond_false,hi,hj,hc,hk,bi_some,hw1,s1,s2,s3]
  have hr:=Kcq (IntKind.i32.wrap (c.toNat:Int))
  generalize runeS (IntKind.i32.wrap (c.toNat:Int))=q at hr
  cases (k==0) with
  | true=>
   rw[cond_true,Kcp (by omega),bi_some,Kcp (by rw[List.length_append];omega),bi_some]
   exact⟨_,a+1+1+1,by simp only[List.length_append];omega,by omega,by omega,rfl⟩
  | false=>
   cases (k==1) with
   | true=>
    rw[cond_false,cond_true,Kcp (by omega),bi_some,Kcp (by rw[List.length_append];omega),bi_some]
    exact⟨_,a+1+1+1,by simp only[List.length_append];omega,by omega,by omega,rfl⟩
   | false=>
    rw[cond_false,cond_false,Kcp (by omega),bi_some]
    exact⟨_,a+1+1+1,by simp only[List.length_append];omega,by omega,by omega,rfl⟩
end Go.Gk
