import Derived.Test.YtfnjahjbpaoepaaGreatDoorWDraw
set_option linter.all false
set_option maxRecDepth 100000
namespace Go.Gk
theorem Kre(p:UInt8→Bool):∀ l:Str,l.dropWhile p=[] ↔ ∀ x∈l,p x=true
 | []=>by simp
 | x :: r=>by
  rw[List.dropWhile_cons]
  cases h:p x with
  | true=>simp[h,Kre p r]
  | false=>simp[h]
theorem Krf(t cs:Str):(Lib.trimS t cs==[])=t.all fun c=>cs.contains c:=by
 rw[Bool.eq_iff_iff,beq_iff_eq,lAe]
 unfold Lib.trimS Lib.trimLeftS
 rw[Kre]
 unfold Lib.trimRightS
 constructor
 ·intro h x hx
  have hs:t.reverse=t.reverse.takeWhile (cs.contains ·)++t.reverse.dropWhile (cs.contains ·):=(List.takeWhile_append_dropWhile).symm
  have hx':x∈t.reverse:=List.mem_reverse.2 hx
  rw[hs,List.mem_append] at hx'
  rcases hx' with hx' | hx'
  ·have:=lAe.1 (List.all_takeWhile (p:=(cs.contains ·)) (l:=t.reverse)) x hx'
   exact this
  exact h x (List.mem_reverse.2 hx')
 intro h x hx
 have:=(List.dropWhile_sublist (cs.contains ·)).subset (List.mem_reverse.1 hx)
 exact h x (List.mem_reverse.1 this)
def dgs:Str:=[48,49,50,51,52,53,54,55,56,57]
def isD(c:UInt8):Bool:=decide (48≤c.toNat)&&decide (c.toNat≤57)
theorem Krg(c:UInt8):dgs.contains c=isD c:=by
 have key:∀ n:Fin 256,dgs.contains (UInt8.ofNat n.val)=isD (UInt8.ofNat n.val):=by decide +kernel
 have:=key ⟨c.toNat,c.toNat_lt⟩
 simpa only[UInt8.ofNat_toNat] using this
theorem Krh{c:UInt8}(h:isD c=true):∃ d,d<10∧Lib.digitVal c=some d∧c=UInt8.ofNat (48+d)∧(c==45)=false∧(c==43)=false∧(d=0 ↔ c=48):=by
 have key:∀ n:Fin 256,isD (UInt8.ofNat n.val)=true→(UInt8.ofNat n.val).toNat - 48<10∧Lib.digitVal (UInt8.ofNat n.val)=some ((UInt8.ofNat n.val).toNat - 48)∧UInt8.ofNat n.val=UInt8.ofNat (48+((UInt8.ofNat n.val).toNat - 48))∧(UInt8.ofNat n.val==45)=false∧(UInt8.ofNat n.val==43)=false∧((UInt8.ofNat n.val).toNat - 48=0 ↔ UInt8.ofNat n.val=48):=by decide +kernel
 have:=key ⟨c.toNat,c.toNat_lt⟩
 simp only[UInt8.ofNat_toNat] at this
 exact⟨_,this h⟩
theorem Kri:∀ (t:Str) (acc:Nat),t.all isD=true→∃ n,Lib.decFrom acc t=some n∧n<(acc+1) * 10 ^ t.length∧(1≤acc→Lib.decDigits n=Lib.decDigits acc++t)∧acc≤n
 | [],acc,_=>⟨acc,rfl,by simp,fun _=>by simp,Nat.le_refl _⟩
 | c :: t,acc,h=>by
  rw[List.all_cons,Bool.and_eq_true] at h
  obtain⟨d,d1,d2,d3,_⟩:=Krh h.1
  obtain⟨n,n1,n2,n3,n4⟩:=Kri t (acc * 10+d) h.2
  refine⟨n,by simp only[Lib.decFrom,d2,n1],nLl n2 ?_,fun ha=>?_,by omega⟩
  ·rw[List.length_cons,Nat.pow_succ,Nat.mul_comm (10 ^ t.length),←Nat.mul_assoc]
   exact Nat.mul_le_mul_right _ (by omega)
  rw[n3 (by omega)]
  have:Lib.decDigits (acc * 10+d)=Lib.decDigits acc++[c]:=by
   rw[Lib.decDigits,dif_neg (by omega),show(acc * 10+d) / 10=acc by omega,show(acc * 10+d) % 10=d by omega,d3]
  rw[this,List.append_assoc];rfl
theorem Krj:∀ n:Nat,1≤n→(Lib.decDigits n)[0]?≠some 48:=by
 intro n
 induction n using Nat.strongRecOn with
 | _ n ih=>
  intro h
  by_cases h10:n<10
  ·rw[Lib.decDigits,dif_pos h10]
   have:∀ m:Fin 10,1≤m.val→([UInt8.ofNat (48+m.val)]:Str)[0]?≠some 48:=by decide
   exact this ⟨n,h10⟩ h
  rw[Lib.decDigits,dif_neg h10]
  have hne:Lib.decDigits (n / 10)≠[]:=by
   rw[Lib.decDigits];split
   ·simp
   simp
  rw[gAl (List.length_pos_iff.2 hne)]
  exact ih (n / 10) (by omega) (by omega)
theorem Krk{t:Str}(hn:t≠[])(h:t.all isD=true):∃ n:Nat,Lib.decNat t=some n∧n<10 ^ t.length∧(Lib.decDigits n=t ↔ (t.length=1∨t[0]?≠some 48))∧(n=0→t[0]?=some 48):=by
 match t,hn,h with
 | c :: r,_,h=>
  rw[List.all_cons,Bool.and_eq_true] at h
  obtain⟨d,d1,d2,d3,_,_,d6⟩:=Krh h.1
  obtain⟨n,n1,n2,n3,n4⟩:=Kri r d h.2
  have e0:Lib.decNat (c :: r)=some n:=by
   unfold Lib.decNat
   rw[if_neg (by simp)]
   simp only[Lib.decFrom,d2,Nat.zero_mul,Nat.zero_add]
   exact n1
  have hlt:n<10 ^ (c :: r).length:=by
   rw[List.length_cons,Nat.pow_succ,Nat.mul_comm]
   exact nLl n2 (Nat.mul_le_mul_right _ (by omega))
  by_cases hd:d=0
  ·have hc:=d6.1 hd
   subst hc
   subst hd
   refine⟨n,e0,hlt,?_,fun _=>rfl⟩
   match r with
   | []=>
    simp only[Lib.decFrom] at n1
    cases n1
    exact⟨fun _=>.inl rfl,fun _=>by decide +kernel⟩
   | x :: r=>
    refine⟨fun he=>?_,fun h=>?_⟩
    ·exfalso
     by_cases hn0:n=0
     ·subst hn0
      have:=congrArg List.length he
      rw[show Lib.decDigits 0=[48] by decide +kernel] at this
      simp at this
     have:=Krj n (by omega)
     rw[he] at this
     exact this rfl
    rcases h with h | h
    ·simp at h
    exact absurd rfl h
  refine⟨n,e0,hlt,?_,fun h0=>by omega⟩
  have:Lib.decDigits n=c :: r:=by
   rw[n3 (by omega),Lib.decDigits,dif_pos d1,←d3];rfl
  refine⟨fun _=>.inr ?_,fun _=>this⟩
  intro h48
  have:c=48:=by simpa using h48
  exact hd (d6.2 this)
theorem Krl(u:Nat):Lib.itoa (u:Int)=Lib.decDigits u:=by unfold Lib.itoa;rw[if_neg (by omega)];simp
theorem Krm(u:Nat)(h:1≤u):Lib.itoa (-(u:Int))=45 :: Lib.decDigits u:=by unfold Lib.itoa;rw[if_pos (by omega)];simp
def numB(s:Str)(most:Nat):Bool:=!(Lib.trimPrefix s [45]==[])&&(decide ((Lib.trimPrefix s [45]).length≤most)&&((Lib.trimPrefix s [45]).all isD&&!(((Lib.trimPrefix s [45])[0]?==some 48)&&!(s==[48]))))
def numV(s:Str):Int:=(Lib.atoi s).getD 0
theorem Lhy(s:Str):(Lib.trimPrefix s [45]=s∧s[0]?≠some 45)∨s=45 :: Lib.trimPrefix s [45]:=by
 unfold Lib.trimPrefix
 match s with
 | []=>exact .inl ⟨rfl,by simp⟩
 | c :: r=>
  by_cases hc:c=45
  ·subst hc;exact .inr rfl
  refine .inl ⟨?_,by simpa using hc⟩
  simp[Lib.hasPrefix,hc]
  intro h
  exact absurd h.symm hc
theorem Krn{s:Str}{m:Nat}(hm:m≤9)(hne:Lib.trimPrefix s [45]≠[])(hl:(Lib.trimPrefix s [45]).length≤m)(hd:(Lib.trimPrefix s [45]).all isD=true) :
  ∃ n:Int,Lib.atoi s=some n∧-(10 ^ m:Nat)<n∧n<(10 ^ m:Nat)∧(Lib.itoa n=s ↔ ¬ ((Lib.trimPrefix s [45])[0]?=some 48∧s≠[48])):=by
 obtain⟨n,n1,n2,n3,n4⟩:=Krk hne hd
 have hp:n<10 ^ m:=nLl n2 (Nat.pow_le_pow_right (by decide) hl)
 rcases Lhy s with⟨h1,h2⟩ | h1
 ·rw[h1] at hne hl hd n1 n3 n4 ⊢
  have ha:Lib.atoi s=some (n:Int):=by
   match s,hne,hd,h2,n1 with
   | c :: r,_,hd,_,n1=>
    rw[List.all_cons,Bool.and_eq_true] at hd
    obtain⟨_,_,_,_,e1,e2,_⟩:=Krh hd.1
    simp only[Lib.atoi,e1,e2,n1]
    rfl
  refine⟨n,ha,by omega,by omega,?_⟩
  rw[Krl,n3]
  constructor
  ·rintro(h | h) ⟨h0,h48⟩
   ·match s,h with
    | [c],_=>simp at h0;subst h0;exact h48 rfl
   ·exact h h0
  ·intro h
   by_cases h0:s[0]?=some 48
   ·have:s=[48]:=by
     by_cases hs:s=[48]
     ·exact hs
     ·exact absurd ⟨h0,hs⟩ h
    rw[this];exact .inl rfl
   ·exact .inr h0
 ·generalize Lib.trimPrefix s [45]=t at *
  subst h1
  have ha:Lib.atoi (45 :: t)=some (-(n:Int)):=by
   simp only[Lib.atoi,n1]
   rfl
  refine⟨-(n:Int),ha,by omega,by omega,?_⟩
  by_cases hn0:n=0
  ·subst hn0
   refine⟨fun h=>?_,fun h=>absurd ⟨n4 rfl,by simp⟩ h⟩
   rw[show Lib.itoa (-((0:Nat):Int))=[48] by decide +kernel] at h
   simp at h
  ·rw[Krm n (by omega)]
   constructor
   ·intro h
    rintro⟨h0,_⟩
    have:Lib.decDigits n=t:=by simpa using h
    have h2:=Krj n (by omega)
    rw[this] at h2
    exact h2 h0
   ·intro h
    have:t[0]?≠some 48:=fun h0=>h ⟨h0,by simp⟩
    rw[n3.2 (.inr this)]
theorem Kro{s:Str}{m:Nat}(hm:m≤9)(hl:(Lib.trimPrefix s [45]).length≤m){n:Int}(h:Lib.atoi s=some n):Ktr s=some n:=by
 unfold Ktr
 have:s.length≤18:=by
  rcases Lhy s with⟨h1,_⟩ | h1
  ·rw[h1] at hl;omega
  have:=congrArg List.length h1;simp at this;omega
 rw[Nat.ble_eq_true_of_le this]
 exact h
theorem Krp(s cs:Str)(hs:s.length≤1000000)(hc:(Nat.blt cs.length 4294967281&&cs.all fun b=>Nat.blt b.toNat 128)=true):Lbn s cs=some (s.all fun c=>cs.contains c):=by
 unfold Lbn Ktc
 rw[Nat.ble_eq_true_of_le (show s.length≤1099511627776 by omega),hc]
 show some (Lib.trimS s cs==[])=_
 rw[Krf]
theorem Krq{n:Int}(h1 : -9223372036854775808≤n)(h2:n≤9223372036854775807):Ktl n=some (Lib.itoa n):=by
 unfold Ktl
 rw[dT h1,dT h2]
 rfl
theorem numR(s:Str)(m:Nat)(hm:m≤9)(hs:s.length≤100000):∃ n,Lcx s (m:Int)=some (n,numB s m)∧(numB s m=true→n=numV s):=by
 unfold Lcx numB
 have htl:(Lib.trimPrefix s [45]).length≤100000:=by
  rcases Lhy s with⟨h1,_⟩ | h1
  ·rw[h1];exact hs
  have:=congrArg List.length h1;simp at this;omega
 rw[show Ksz s [45]=some (Lib.trimPrefix s [45]) from rfl,bi_some]
 cases h1:(Lib.trimPrefix s [45]==[]) with
 | true=>exact⟨0,rfl,fun h=>by simp at h⟩
 | false=>
  have hne:Lib.trimPrefix s [45]≠[]:=by simpa using h1
  by_cases hl:(Lib.trimPrefix s [45]).length≤m
  ·rw[dF (show ¬ ((Lib.trimPrefix s [45]).length:Int)>(m:Int) by omega),dT hl]
   simp only[Bool.or_self,cond_false]
   have e:=Krp (Lib.trimPrefix s [45]) dgs (by omega) (by decide)
   rw[show([48,49,50,51,52,53,54,55,56,57]:Str)=dgs from rfl,e,show(fun c=>dgs.contains c)=isD from funext Krg]
   cases h2:(Lib.trimPrefix s [45]).all isD with
   | false=>exact⟨0,rfl,fun h=>by simp at h⟩
   | true=>
    obtain⟨n,n1,n2,n3,n4⟩:=Krn hm hne hl h2
    have hpow:(10 ^ m:Nat)≤10 ^ 9:=Nat.pow_le_pow_right (by decide) hm
    have hp9:(10 ^ 9:Nat)=1000000000:=by decide
    simp only[bi_some,Bool.not_true,cond_false,Kro hm hl n1,Krq (n:=n) (by omega) (by omega)]
    refine⟨n,?_,fun _=>by simp[numV,n1]⟩
    congr 2
    rw[Bool.eq_iff_iff]
    simp only[beq_iff_eq,Bool.true_and,Bool.and_true,Bool.not_false,Bool.not_eq_true',Bool.and_eq_false_iff,n4]
    simp only[Bool.not_eq_false',beq_eq_false_iff_ne,beq_iff_eq,ne_eq]
    constructor
    ·intro h
     by_cases h0:(Lib.trimPrefix s [45])[0]?=some 48
     ·exact .inr (Classical.byContradiction fun hh=>h ⟨h0,hh⟩)
     exact .inl h0
    rintro(h | h) ⟨h3,h4⟩
    ·exact h h3
    exact h4 h
  rw[dT (show((Lib.trimPrefix s [45]).length:Int)>(m:Int) by omega),dF hl]
  exact⟨0,rfl,fun h=>by simp at h⟩
def dLoop(y1:Str)(s12:Int):Option (LS Int (Unit ⊕ (Int×Bool))):=bif decide ((s12:Int)<(y1.length:Int)) then(bi (getZ y1 s12) fun c22=>bi (bif decide (((c22.toNat:Int):Int)<48) then(some true) else(bi (getZ y1 s12) fun c28=>some (decide (((c28.toNat:Int):Int)>57)))) fun q24=>bif q24 then(bi (some (0,false)) fun v=>some (.out (.inr v))) else(some (.go (wi (s12+1))))) else(some (.out (.inl ())))
theorem Krr(y:Str)(hl:y.length≤100):∀ (n k i:Nat),n=y.length - i→i≤y.length→n<k→loopM (dLoop y) k (i:Int)=some (if (y.drop i).all isD then .inl () else .inr (0,false))
 | n,0,i,_,_,h=>absurd h (Nat.not_lt_zero _)
 | n,k+1,i,hn,hi,hk=>by
  by_cases he:i<y.length
  ·have hg:getZ y (i:Int)=some y[i]:=Kwn (gGe he)
   have hdr:y.drop i=y[i] :: y.drop (i+1):=List.drop_eq_getElem_cons he
   have hstep:dLoop y (i:Int)=some (if isD y[i] then .go ((i+1:Nat):Int) else .out (.inr (0,false))):=by
    unfold dLoop
    rw[dT (show(i:Int)<(y.length:Int) by omega)]
    simp only[cond_true,hg,bi_some]
    unfold isD
    by_cases h1:48≤y[i].toNat
    ·rw[dF (show ¬ (y[i].toNat:Int)<48 by omega),dT h1]
     simp only[cond_false,bi_some,Bool.true_and]
     by_cases h2:y[i].toNat≤57
     ·rw[dF (show ¬ (y[i].toNat:Int)>57 by omega),dT h2]
      simp only[cond_false,if_true]
      rw[Kvu (by omega) (by omega)]
      rfl
     rw[dT (show(y[i].toNat:Int)>57 by omega),dF h2]
     rfl
    rw[dT (show(y[i].toNat:Int)<48 by omega),dF h1]
    rfl
   rw[hdr,List.all_cons]
   simp only[loopM,hstep]
   cases hD:isD y[i] with
   | false=>rfl
   | true=>
    simp only[if_true,Bool.true_and]
    exact Krr y hl (n - 1) k (i+1) (by omega) (by omega) (by omega)
  have:y.drop i=[]:=List.drop_eq_nil_of_le (by omega)
  rw[this]
  simp only[loopM]
  unfold dLoop
  rw[dF (show ¬ (i:Int)<(y.length:Int) by omega)]
  rfl
theorem Krs(k:Nat)(s:Str)(most:Int):Lci k s most=bi (Ksz s [45]) fun y1=>bi (bif (((y1:Str)==[])||(decide (((y1.length:Int):Int)>most))) then(some true) else(bi (getZ y1 0) fun c7=>some ((((c7.toNat:Int):Int)==48)&&(!((s:Str)==[48]))))) fun q3=>bif q3 then(some (0,false)) else(bi (loopM (dLoop y1) k 0) fun q=>orI q fun a16=>bi (Ktr s) fun y35=>some (y35,true)):=rfl
theorem numP(s:Str)(m:Nat)(hm:m≤9):∃ n,Lci 4000 s (m:Int)=some (n,numB s m)∧(numB s m=true→n=numV s):=by
 rw[Krs]
 unfold numB
 rw[show Ksz s [45]=some (Lib.trimPrefix s [45]) from rfl,bi_some]
 cases h1:(Lib.trimPrefix s [45]==[]) with
 | true=>exact⟨0,rfl,fun h=>by simp at h⟩
 | false=>
  have hne:Lib.trimPrefix s [45]≠[]:=by simpa using h1
  by_cases hl:(Lib.trimPrefix s [45]).length≤m
  ·rw[dF (show ¬ ((Lib.trimPrefix s [45]).length:Int)>(m:Int) by omega),dT hl]
   simp only[Bool.or_self,cond_false]
   have h0:∃ c,(Lib.trimPrefix s [45])[0]?=some c:=⟨_,gGe (List.length_pos_iff.2 hne)⟩
   obtain⟨c,hc⟩:=h0
   rw[show(0:Int)=((0:Nat):Int) from rfl,Kwn hc,bi_some,bi_some,hc]
   have hc48:(((c.toNat:Int))==48)=((some c:Option UInt8)==some 48):=by
    rw[Bool.eq_iff_iff]
    simp only[beq_iff_eq,Option.some.injEq]
    constructor
    ·intro h;exact UInt8.toNat_inj.1 (by show c.toNat=48;omega)
    intro h;subst h;rfl
   rw[hc48]
   cases h3:((some c:Option UInt8)==some 48&&!(s==[48])) with
   | true=>exact⟨0,by simp,fun h=>by simp at h⟩
   | false=>
    simp only[cond_false]
    rw[Krr (Lib.trimPrefix s [45]) (by omega) _ 4000 0 rfl (Nat.zero_le _) (by omega),List.drop_zero]
    cases h2:(Lib.trimPrefix s [45]).all isD with
    | false=>exact⟨0,rfl,fun h=>by simp at h⟩
    | true=>
     obtain⟨n,n1,n2,n3,n4⟩:=Krn hm hne hl h2
     refine⟨n,?_,fun _=>by simp[numV,n1]⟩
     simp only[if_true,bi_some,orI,Kro hm hl n1]
     rfl
  rw[dT (show((Lib.trimPrefix s [45]).length:Int)>(m:Int) by omega),dF hl]
  exact⟨0,rfl,fun h=>by simp at h⟩
theorem Krt{s:Str}{m:Nat}(hm:m≤9)(h:numB s m=true):Lib.itoa (numV s)=s∧-(10 ^ m:Nat)<numV s∧numV s<(10 ^ m:Nat):=by
 unfold numB at h
 simp only[Bool.and_eq_true,Bool.not_eq_true',beq_eq_false_iff_ne,decide_eq_true_eq] at h
 obtain⟨h1,h2,h3,h4⟩:=h
 obtain⟨n,n1,n2,n3,n4⟩:=Krn hm h1 h2 h3
 have hv:numV s=n:=by simp[numV,n1]
 rw[hv]
 refine⟨n4.2 fun ⟨a,b⟩=>?_,n2,n3⟩
 simp[a,b] at h4
end Go.Gk
