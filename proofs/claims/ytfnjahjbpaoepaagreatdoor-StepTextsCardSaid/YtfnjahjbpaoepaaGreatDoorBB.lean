import Derived.Test.YtfnjahjbpaoepaaGreatDoorSD
import Derived.Lib.SplitLaws
set_option linter.all false
set_option maxRecDepth 100000
namespace Go.Gk
theorem Kaa{α β:Type}{x:Option α}{f:α→Option β}{v:α}(h:x=some v):bi x f=f v:=by rw[h];rfl
theorem Kab{σ ρ:Type}{f:σ→Option (LS σ ρ)}{k:Nat}{s:σ}(s':σ)(h:f s=some (.go s')):loopM f (k+1) s=loopM f k s':=by simp only[loopM,h]
theorem Kac{σ ρ:Type}{f:σ→Option (LS σ ρ)}{k:Nat}{s:σ}(r:ρ)(h:f s=some (.out r)):loopM f (k+1) s=some r:=by simp only[loopM,h]
theorem Kad{α σ ρ:Type}{f:Nat→α→σ→Option (LS σ ρ)}{i:Nat}{x:α}{l:List α}{s:σ}{r:ρ}(h:f i x s=some (.out r)):rangeM f i (x :: l) s=some (.out r):=by simp only[rangeM,h]
theorem Kae{α σ ρ:Type}{f:Nat→α→σ→Option (LS σ ρ)}{i:Nat}{x:α}{l:List α}{s t:σ}(h:f i x s=some (.go t)):rangeM f i (x :: l) s=rangeM f (i+1) l t:=by simp only[rangeM,h]
theorem Kaf(x:Str):((x:Str)==[])=decide (x.length=0):=by cases x<;>rfl
theorem Kag{a b:Str}(h:a.length+b.length≤9223372036854775807):catZ a b=some (a++b):=by unfold catZ;rw[Nat.ble_eq_true_of_le h];rfl
theorem Kah(n a b:Int):Kzt n a b=some (decide (a≤n∧n≤b)):=by
 unfold Kzt
 congr 1
 rw[Bool.eq_iff_iff]
 simp
theorem Kai(p:UInt8→Bool):∀ l:Str,l.dropWhile p=[] ↔ ∀ x∈l,p x=true
 | []=>by simp
 | x :: r=>by
  rw[List.dropWhile_cons]
  cases h:p x with
  | true=>simp[h,Kai p r]
  | false=>simp[h]
theorem Kaj(t cs:Str):(Lib.trimS t cs==[])=t.all fun c=>cs.contains c:=by
 rw[Bool.eq_iff_iff,beq_iff_eq,lAe]
 unfold Lib.trimS Lib.trimLeftS
 rw[Kai]
 unfold Lib.trimRightS
 constructor
 ·intro h x hx
  have hs:t.reverse=t.reverse.takeWhile (cs.contains ·)++t.reverse.dropWhile (cs.contains ·):=(List.takeWhile_append_dropWhile).symm
  have hx':x∈t.reverse:=List.mem_reverse.2 hx
  rw[hs,List.mem_append] at hx'
  rcases hx' with hx' | hx'
  ·have:=lAe.1 (List.all_takeWhile (p:=(cs.contains ·)) (l:=t.reverse)) x hx'
   exact this
  exact h x (List.mem_reverse.2 hx')
 intro h x hx
 have:=(List.dropWhile_sublist (cs.contains ·)).subset (List.mem_reverse.1 hx)
 exact h x (List.mem_reverse.1 this)
def dgs:Str:=[48,49,50,51,52,53,54,55,56,57]
def isD(c:UInt8):Bool:=decide (48≤c.toNat)&&decide (c.toNat≤57)
theorem Kak(c:UInt8):dgs.contains c=isD c:=by
 have key:∀ n:Fin 256,dgs.contains (UInt8.ofNat n.val)=isD (UInt8.ofNat n.val):=by decide +kernel
 have:=key ⟨c.toNat,c.toNat_lt⟩
 simpa only[UInt8.ofNat_toNat] using this
theorem Kal{c:UInt8}(h:isD c=true):∃ d,d<10∧Lib.digitVal c=some d∧c=UInt8.ofNat (48+d)∧(c==45)=false∧(c==43)=false∧(d=0 ↔ c=48):=by
 have key:∀ n:Fin 256,isD (UInt8.ofNat n.val)=true→(UInt8.ofNat n.val).toNat - 48<10∧Lib.digitVal (UInt8.ofNat n.val)=some ((UInt8.ofNat n.val).toNat - 48)∧UInt8.ofNat n.val=UInt8.ofNat (48+((UInt8.ofNat n.val).toNat - 48))∧(UInt8.ofNat n.val==45)=false∧(UInt8.ofNat n.val==43)=false∧((UInt8.ofNat n.val).toNat - 48=0 ↔ UInt8.ofNat n.val=48):=by decide +kernel
 have:=key ⟨c.toNat,c.toNat_lt⟩
 simp only[UInt8.ofNat_toNat] at this
 exact⟨_,this h⟩
theorem Kam:∀ (t:Str) (acc:Nat),t.all isD=true→∃ n,Lib.decFrom acc t=some n∧n<(acc+1) * 10 ^ t.length∧(1≤acc→Lib.decDigits n=Lib.decDigits acc++t)∧acc≤n
 | [],acc,_=>⟨acc,rfl,by simp,fun _=>by simp,Nat.le_refl _⟩
 | c :: t,acc,h=>by
  rw[List.all_cons,Bool.and_eq_true] at h
  obtain⟨d,d1,d2,d3,_⟩:=Kal h.1
  obtain⟨n,n1,n2,n3,n4⟩:=Kam t (acc * 10+d) h.2
  refine⟨n,by simp only[Lib.decFrom,d2,n1],nLl n2 ?_,fun ha=>?_,by omega⟩
  ·rw[List.length_cons,Nat.pow_succ,Nat.mul_comm (10 ^ t.length),←Nat.mul_assoc]
   exact Nat.mul_le_mul_right _ (by omega)
  rw[n3 (by omega)]
  have:Lib.decDigits (acc * 10+d)=Lib.decDigits acc++[c]:=by
   rw[Lib.decDigits,dif_neg (by omega),show(acc * 10+d) / 10=acc by omega,show(acc * 10+d) % 10=d by omega,d3]
  rw[this,List.append_assoc];rfl
theorem Kan:∀ n:Nat,1≤n→(Lib.decDigits n)[0]?≠some 48:=by
 intro n
 induction n using Nat.strongRecOn with
 | _ n ih=>
  intro h
  by_cases h10:n<10
  ·rw[Lib.decDigits,dif_pos h10]
   have:∀ m:Fin 10,1≤m.val→([UInt8.ofNat (48+m.val)]:Str)[0]?≠some 48:=by decide
   exact this ⟨n,h10⟩ h
  rw[Lib.decDigits,dif_neg h10]
  have hne:Lib.decDigits (n / 10)≠[]:=by
   rw[Lib.decDigits];split
   ·simp
   simp
  rw[gAl (List.length_pos_iff.2 hne)]
  exact ih (n / 10) (by omega) (by omega)
theorem Kao{t:Str}(hn:t≠[])(h:t.all isD=true):∃ n:Nat,Lib.decNat t=some n∧n<10 ^ t.length∧(Lib.decDigits n=t ↔ (t.length=1∨t[0]?≠some 48))∧(n=0→t[0]?=some 48):=by
 match t,hn,h with
 | c :: r,_,h=>
  rw[List.all_cons,Bool.and_eq_true] at h
  obtain⟨d,d1,d2,d3,_,_,d6⟩:=Kal h.1
  obtain⟨n,n1,n2,n3,n4⟩:=Kam r d h.2
  have e0:Lib.decNat (c :: r)=some n:=by
   unfold Lib.decNat
   rw[if_neg (by simp)]
   simp only[Lib.decFrom,d2,Nat.zero_mul,Nat.zero_add]
   exact n1
  have hlt:n<10 ^ (c :: r).length:=by
   rw[List.length_cons,Nat.pow_succ,Nat.mul_comm]
   exact nLl n2 (Nat.mul_le_mul_right _ (by omega))
  by_cases hd:d=0
  ·have hc:=d6.1 hd
   subst hc
   subst hd
   refine⟨n,e0,hlt,?_,fun _=>rfl⟩
   match r with
   | []=>
    simp only[Lib.decFrom] at n1
    cases n1
    exact⟨fun _=>.inl rfl,fun _=>by decide +kernel⟩
   | x :: r=>
    refine⟨fun he=>?_,fun h=>?_⟩
    ·exfalso
     by_cases hn0:n=0
     ·subst hn0
      have:=congrArg List.length he
      rw[show Lib.decDigits 0=[48] by decide +kernel] at this
      simp at this
     have:=Kan n (by omega)
     rw[he] at this
     exact this rfl
    rcases h with h | h
    ·simp at h
    exact absurd rfl h
  refine⟨n,e0,hlt,?_,fun h0=>by omega⟩
  have:Lib.decDigits n=c :: r:=by
   rw[n3 (by omega),Lib.decDigits,dif_pos d1,←d3];rfl
  refine⟨fun _=>.inr ?_,fun _=>this⟩
  intro h48
  have:c=48:=by simpa using h48
  exact hd (d6.2 this)
theorem Kap(u:Nat):Lib.itoa (u:Int)=Lib.decDigits u:=by unfold Lib.itoa;rw[if_neg (by omega)];simp
theorem Kaq(u:Nat)(h:1≤u):Lib.itoa (-(u:Int))=45 :: Lib.decDigits u:=by unfold Lib.itoa;rw[if_pos (by omega)];simp
def numB(s:Str)(most:Nat):Bool:=!(Lib.trimPrefix s [45]==[])&&(decide ((Lib.trimPrefix s [45]).length≤most)&&((Lib.trimPrefix s [45]).all isD&&!(((Lib.trimPrefix s [45])[0]?==some 48)&&!(s==[48]))))
def numV(s:Str):Int:=(Lib.atoi s).getD 0
theorem Lfs(s:Str):(Lib.trimPrefix s [45]=s∧s[0]?≠some 45)∨s=45 :: Lib.trimPrefix s [45]:=by
 unfold Lib.trimPrefix
 match s with
 | []=>exact .inl ⟨rfl,by simp⟩
 | c :: r=>
  by_cases hc:c=45
  ·subst hc;exact .inr rfl
  refine .inl ⟨?_,by simpa using hc⟩
  simp[Lib.hasPrefix,hc]
  intro h
  exact absurd h.symm hc
theorem Kar{s:Str}{m:Nat}(hm:m≤9)(hne:Lib.trimPrefix s [45]≠[])(hl:(Lib.trimPrefix s [45]).length≤m)(hd:(Lib.trimPrefix s [45]).all isD=true) :
  ∃ n:Int,Lib.atoi s=some n∧-(10 ^ m:Nat)<n∧n<(10 ^ m:Nat)∧(Lib.itoa n=s ↔ ¬ ((Lib.trimPrefix s [45])[0]?=some 48∧s≠[48])):=by
 obtain⟨n,n1,n2,n3,n4⟩:=Kao hne hd
 have hp:n<10 ^ m:=nLl n2 (Nat.pow_le_pow_right (by decide) hl)
 rcases Lfs s with⟨h1,h2⟩ | h1
 ·rw[h1] at hne hl hd n1 n3 n4 ⊢
  have ha:Lib.atoi s=some (n:Int):=by
   match s,hne,hd,h2,n1 with
   | c :: r,_,hd,_,n1=>
    rw[List.all_cons,Bool.and_eq_true] at hd
    obtain⟨_,_,_,_,e1,e2,_⟩:=Kal hd.1
    simp only[Lib.atoi,e1,e2,n1]
    rfl
  refine⟨n,ha,by omega,by omega,?_⟩
  rw[Kap,n3]
  constructor
  ·rintro(h | h) ⟨h0,h48⟩
   ·match s,h with
    | [c],_=>simp at h0;subst h0;exact h48 rfl
   ·exact h h0
  ·intro h
   by_cases h0:s[0]?=some 48
   ·have:s=[48]:=by
     by_cases hs:s=[48]
     ·exact hs
     ·exact absurd ⟨h0,hs⟩ h
    rw[this];exact .inl rfl
   ·exact .inr h0
 ·generalize Lib.trimPrefix s [45]=t at *
  subst h1
  have ha:Lib.atoi (45 :: t)=some (-(n:Int)):=by
   simp only[Lib.atoi,n1]
   rfl
  refine⟨-(n:Int),ha,by omega,by omega,?_⟩
  by_cases hn0:n=0
  ·subst hn0
   refine⟨fun h=>?_,fun h=>absurd ⟨n4 rfl,by simp⟩ h⟩
   rw[show Lib.itoa (-((0:Nat):Int))=[48] by decide +kernel] at h
   simp at h
  ·rw[Kaq n (by omega)]
   constructor
   ·intro h
    rintro⟨h0,_⟩
    have:Lib.decDigits n=t:=by simpa using h
    have h2:=Kan n (by omega)
    rw[this] at h2
    exact h2 h0
   ·intro h
    have:t[0]?≠some 48:=fun h0=>h ⟨h0,by simp⟩
    rw[n3.2 (.inr this)]
theorem Kas{s:Str}{m:Nat}(hm:m≤9)(hl:(Lib.trimPrefix s [45]).length≤m){n:Int}(h:Lib.atoi s=some n):Kso s=some n:=by
 unfold Kso
 have:s.length≤18:=by
  rcases Lfs s with⟨h1,_⟩ | h1
  ·rw[h1] at hl;omega
  have:=congrArg List.length h1;simp at this;omega
 rw[Nat.ble_eq_true_of_le this]
 exact h
theorem Kat(s cs:Str)(hs:s.length≤1000000)(hc:(Nat.blt cs.length 4294967281&&cs.all fun b=>Nat.blt b.toNat 128)=true):Kzv s cs=some (s.all fun c=>cs.contains c):=by
 unfold Kzv Ksa
 rw[Nat.ble_eq_true_of_le (show s.length≤1099511627776 by omega),hc]
 show some (Lib.trimS s cs==[])=_
 rw[Kaj]
theorem Kau{n:Int}(h1 : -9223372036854775808≤n)(h2:n≤9223372036854775807):Ksj n=some (Lib.itoa n):=by
 unfold Ksj
 rw[dT h1,dT h2]
 rfl
theorem numR(s:Str)(m:Nat)(hm:m≤9)(hs:s.length≤300000):∃ n,Lbc s (m:Int)=some (n,numB s m)∧(numB s m=true→n=numV s):=by
 unfold Lbc numB
 have htl:(Lib.trimPrefix s [45]).length≤300000:=by
  rcases Lfs s with⟨h1,_⟩ | h1
  ·rw[h1];exact hs
  have:=congrArg List.length h1;simp at this;omega
 rw[show Krx s [45]=some (Lib.trimPrefix s [45]) from rfl,bi_some]
 cases h1:(Lib.trimPrefix s [45]==[]) with
 | true=>exact⟨0,rfl,fun h=>by simp at h⟩
 | false=>
  have hne:Lib.trimPrefix s [45]≠[]:=by simpa using h1
  by_cases hl:(Lib.trimPrefix s [45]).length≤m
  ·rw[dF (show ¬ ((Lib.trimPrefix s [45]).length:Int)>(m:Int) by omega),dT hl]
   simp only[Bool.or_self,cond_false]
   have e:=Kat (Lib.trimPrefix s [45]) dgs (by omega) (by decide)
   rw[show([48,49,50,51,52,53,54,55,56,57]:Str)=dgs from rfl,e,show(fun c=>dgs.contains c)=isD from funext Kak]
   cases h2:(Lib.trimPrefix s [45]).all isD with
   | false=>exact⟨0,rfl,fun h=>by simp at h⟩
   | true=>
    obtain⟨n,n1,n2,n3,n4⟩:=Kar hm hne hl h2
    have hpow:(10 ^ m:Nat)≤10 ^ 9:=Nat.pow_le_pow_right (by decide) hm
    have hp9:(10 ^ 9:Nat)=1000000000:=by decide
    simp only[bi_some,Bool.not_true,cond_false,Kas hm hl n1,Kau (n:=n) (by omega) (by omega)]
    refine⟨n,?_,fun _=>by simp[numV,n1]⟩
    congr 2
    rw[Bool.eq_iff_iff]
    simp only[beq_iff_eq,Bool.true_and,Bool.and_true,Bool.not_false,Bool.not_eq_true',Bool.and_eq_false_iff,n4]
    simp only[Bool.not_eq_false',beq_eq_false_iff_ne,beq_iff_eq,ne_eq]
    constructor
    ·intro h
     by_cases h0:(Lib.trimPrefix s [45])[0]?=some 48
     ·exact .inr (Classical.byContradiction fun hh=>h ⟨h0,hh⟩)
     exact .inl h0
    rintro(h | h) ⟨h3,h4⟩
    ·exact h h3
    exact h4 h
  rw[dT (show((Lib.trimPrefix s [45]).length:Int)>(m:Int) by omega),dF hl]
  exact⟨0,rfl,fun h=>by simp at h⟩
def dLoop(y1:Str)(s12:Int):Option (LS Int (Unit ⊕ (Int×Bool))):=bif decide ((s12:Int)<(y1.length:Int)) then(bi (getZ y1 s12) fun c22=>bi (bif decide (((c22.toNat:Int):Int)<48) then(some true) else(bi (getZ y1 s12) fun c28=>some (decide (((c28.toNat:Int):Int)>57)))) fun q24=>bif q24 then(bi (some (0,false)) fun v=>some (.out (.inr v))) else(some (.go (wi (s12+1))))) else(some (.out (.inl ())))
theorem Kav(y:Str)(hl:y.length≤100):∀ (n k i:Nat),n=y.length - i→i≤y.length→n<k→loopM (dLoop y) k (i:Int)=some (if (y.drop i).all isD then .inl () else .inr (0,false))
 | n,0,i,_,_,h=>absurd h (Nat.not_lt_zero _)
 | n,k+1,i,hn,hi,hk=>by
  by_cases he:i<y.length
  ·have hg:getZ y (i:Int)=some y[i]:=Ksy (gGe he)
   have hdr:y.drop i=y[i] :: y.drop (i+1):=List.drop_eq_getElem_cons he
   have hstep:dLoop y (i:Int)=some (if isD y[i] then .go ((i+1:Nat):Int) else .out (.inr (0,false))):=by
    unfold dLoop
    rw[dT (show(i:Int)<(y.length:Int) by omega)]
    simp only[cond_true,hg,bi_some]
    unfold isD
    by_cases h1:48≤y[i].toNat
    ·rw[dF (show ¬ (y[i].toNat:Int)<48 by omega),dT h1]
     simp only[cond_false,bi_some,Bool.true_and]
     by_cases h2:y[i].toNat≤57
     ·rw[dF (show ¬ (y[i].toNat:Int)>57 by omega),dT h2]
      simp only[cond_false,if_true]
      rw[Ktc (by omega) (by omega)]
      rfl
     rw[dT (show(y[i].toNat:Int)>57 by omega),dF h2]
     rfl
    rw[dT (show(y[i].toNat:Int)<48 by omega),dF h1]
    rfl
   rw[hdr,List.all_cons]
   simp only[loopM,hstep]
   cases hD:isD y[i] with
   | false=>rfl
   | true=>
    simp only[if_true,Bool.true_and]
    exact Kav y hl (n - 1) k (i+1) (by omega) (by omega) (by omega)
  have:y.drop i=[]:=List.drop_eq_nil_of_le (by omega)
  rw[this]
  simp only[loopM]
  unfold dLoop
  rw[dF (show ¬ (i:Int)<(y.length:Int) by omega)]
  rfl
theorem Kaw(k:Nat)(s:Str)(most:Int):Lat k s most=bi (Krx s [45]) fun y1=>bi (bif (((y1:Str)==[])||(decide (((y1.length:Int):Int)>most))) then(some true) else(bi (getZ y1 0) fun c7=>some ((((c7.toNat:Int):Int)==48)&&(!((s:Str)==[48]))))) fun q3=>bif q3 then(some (0,false)) else(bi (loopM (dLoop y1) k 0) fun q=>orI q fun a16=>bi (Kso s) fun y35=>some (y35,true)):=rfl
theorem numP(s:Str)(m:Nat)(hm:m≤9):∃ n,Lat 1000000 s (m:Int)=some (n,numB s m)∧(numB s m=true→n=numV s):=by
 rw[Kaw]
 unfold numB
 rw[show Krx s [45]=some (Lib.trimPrefix s [45]) from rfl,bi_some]
 cases h1:(Lib.trimPrefix s [45]==[]) with
 | true=>exact⟨0,rfl,fun h=>by simp at h⟩
 | false=>
  have hne:Lib.trimPrefix s [45]≠[]:=by simpa using h1
  by_cases hl:(Lib.trimPrefix s [45]).length≤m
  ·rw[dF (show ¬ ((Lib.trimPrefix s [45]).length:Int)>(m:Int) by omega),dT hl]
   simp only[Bool.or_self,cond_false]
   have h0:∃ c,(Lib.trimPrefix s [45])[0]?=some c:=⟨_,gGe (List.length_pos_iff.2 hne)⟩
   obtain⟨c,hc⟩:=h0
   rw[show(0:Int)=((0:Nat):Int) from rfl,Ksy hc,bi_some,bi_some,hc]
   have hc48:(((c.toNat:Int))==48)=((some c:Option UInt8)==some 48):=by
    rw[Bool.eq_iff_iff]
    simp only[beq_iff_eq,Option.some.injEq]
    constructor
    ·intro h;exact UInt8.toNat_inj.1 (by show c.toNat=48;omega)
    intro h;subst h;rfl
   rw[hc48]
   cases h3:((some c:Option UInt8)==some 48&&!(s==[48])) with
   | true=>exact⟨0,by simp,fun h=>by simp at h⟩
   | false=>
    simp only[cond_false]
    rw[Kav (Lib.trimPrefix s [45]) (by omega) _ 1000000 0 rfl (Nat.zero_le _) (by omega),List.drop_zero]
    cases h2:(Lib.trimPrefix s [45]).all isD with
    | false=>exact⟨0,rfl,fun h=>by simp at h⟩
    | true=>
     obtain⟨n,n1,n2,n3,n4⟩:=Kar hm hne hl h2
     refine⟨n,?_,fun _=>by simp[numV,n1]⟩
     simp only[if_true,bi_some,orI,Kas hm hl n1]
     rfl
  rw[dT (show((Lib.trimPrefix s [45]).length:Int)>(m:Int) by omega),dF hl]
  exact⟨0,rfl,fun h=>by simp at h⟩
theorem Kax{c:UInt8}:∀ {s:Str},(∀ b∈s,b≠c)→Lib.indexByte s c=-1
 | [],_=>rfl
 | b :: s,h=>by
  have h1:(b==c)=false:=by simpa using h b mCs
  have ih:=Kax (s:=s) fun c hc=>h c (mCo _ hc)
  simp[Lib.indexByte,h1,ih]
theorem Kay{c:UInt8}:∀ {x:Str} (t:Str),(∀ b∈x,b≠c)→Lib.indexByte (x++c :: t) c=(x.length:Int)
 | [],t,_=>by simp[Lib.indexByte]
 | b :: x,t,h=>by
  have h1:(b==c)=false:=by simpa using h b mCs
  have ih:=Kay (x:=x) t fun c hc=>h c (mCo _ hc)
  simp only[List.cons_append,Lib.indexByte,h1,ih,List.length_cons]
  rw[if_neg (by decide),if_neg (by simp)]
  omega
theorem Kaz{c:UInt8}{s:Str}(h:∀ b∈s,b≠c):Lib.split s [c]=[s]:=by
 unfold Lib.split
 rw[Lib.count_one,List.count_eq_zero_of_not_mem fun hm=>h _ hm rfl]
 rfl
theorem Kba{c:UInt8}{x:Str}(t:Str)(h:∀ b∈x,b≠c):Lib.split (x++c :: t) [c]=x :: Lib.split t [c]:=by
 unfold Lib.split
 rw[Lib.count_one,Lib.count_one,List.count_append,List.count_eq_zero_of_not_mem fun hm=>h _ hm rfl,List.count_cons_self,Nat.zero_add]
 have e:Lib.index (x++c :: t) [c]=(x.length:Int):=by rw[Lib.index_one];exact Kay t h
 conv=>lhs;unfold Lib.splitK
 rw[e,if_neg (by simp)]
 simp
theorem Kbb(c:UInt8):∀ s:Str,(∀ b∈s,b≠c)∨∃ x t,s=x++c :: t∧∀ b∈x,b≠c
 | []=>.inl fun b hb=>by cases hb
 | a :: s=>by
  by_cases ha:a=c
  ·exact .inr ⟨[],s,by rw[ha];rfl,fun b hb=>by cases hb⟩
  rcases Kbb c s with h | ⟨x,t,h1,h2⟩
  ·refine .inl fun b hb=>?_
   rcases List.mem_cons.1 hb with rfl | hb
   ·exact ha
   exact h b hb
  refine .inr ⟨a :: x,t,by rw[h1];rfl,fun b hb=>?_⟩
  rcases List.mem_cons.1 hb with rfl | hb
  ·exact ha
  exact h2 b hb
theorem Kbc{c:UInt8}{s:Str}(h:∀ b∈s,b≠c):cut1 s c=(s,[],false):=by
 unfold cut1
 rw[Kax h]
 rfl
theorem Kbd{c:UInt8}{x:Str}(t:Str)(h:∀ b∈x,b≠c):cut1 (x++c :: t) c=(x,t,true):=by
 unfold cut1
 rw[Kay t h,if_pos (by omega)]
 simp
theorem Kbe(c:UInt8)(s:Str):Lib.split s [c]≠[]:=by
 rcases Kbb c s with h | ⟨x,t,h1,h2⟩
 ·rw[Kaz h];simp
 rw[h1,Kba t h2];simp
theorem Kbf(c:UInt8):∀ (n:Nat) (s:Str),s.length≤n→(∀ x∈Lib.split s [c],x.length≤s.length∧∀ b∈x,b∈s∧b≠c)∧(∀ b∈s,b=c∨∃ x∈Lib.split s [c],b∈x)∧(Lib.split s [c]).length≤s.length+1
 | n,s,hn=>by
  rcases Kbb c s with h | ⟨x,t,h1,h2⟩
  ·rw[Kaz h]
   refine⟨fun x hx=>?_,fun b hb=>.inr ⟨s,by simp,hb⟩,by simp⟩
   rw[List.mem_singleton.1 hx]
   exact⟨Nat.le_refl _,fun b hb=>⟨hb,h b hb⟩⟩
  have hl:s.length=x.length+1+t.length:=by rw[h1];simp;omega
  match n with
  | 0=>omega
  | n+1=>
   obtain⟨i1,i2,i3⟩:=Kbf c n t (by omega)
   rw[h1,Kba t h2]
   refine⟨fun y hy=>?_,fun b hb=>?_,?_⟩
   ·rcases List.mem_cons.1 hy with rfl | hy
    ·exact⟨by simp,fun b hb=>⟨by simp[hb],h2 b hb⟩⟩
    obtain⟨j1,j2⟩:=i1 y hy
    exact⟨by simp;omega,fun b hb=>⟨by simp[(j2 b hb).1],(j2 b hb).2⟩⟩
   ·rw[List.mem_append,List.mem_cons] at hb
    rcases hb with hb | rfl | hb
    ·exact .inr ⟨x,by simp,hb⟩
    ·exact .inl rfl
    rcases i2 b hb with h | ⟨y,hy,h⟩
    ·exact .inl h
    exact .inr ⟨y,by simp[hy],h⟩
   simp;omega
theorem Kbg(c:UInt8){s:Str}(h:s.length≤1000000):Ksb s [c]=some (Lib.split s [c]):=by
 unfold Ksb
 rw[show Nat.blt s.length 4294967281=true from by rw[Nat.blt_eq];omega]
 rfl
def linL(L:List Str):List Str×Bool:=match L.getLast? with
 | some []=>(L.dropLast,true)
 | _=>(L,false)
theorem Kbh(x:Str){L:List Str}(h:L≠[]):linL (x :: L)=(x :: (linL L).1,(linL L).2):=by
 unfold linL
 rw[List.getLast?_cons_of_ne_nil h]
 have h2:(x :: L).dropLast=x :: L.dropLast:=List.dropLast_cons_of_ne_nil h
 rw[h2]
 split<;>rfl
def linT(t:Str):List Str×Bool:=linL (Lib.split t [10])
theorem Kbi:linT []=([],true):=by
 unfold linT
 rw[Kaz (s:=[]) (fun b hb=>by cases hb)]
 rfl
theorem Kbj{t:Str}(hn:t≠[])(h:∀ b∈t,b≠10):linT t=([t],false):=by
 unfold linT
 rw[Kaz h]
 cases t with
 | nil=>exact absurd rfl hn
 | cons c t=>rfl
theorem Kbk{x:Str}(t:Str)(h:∀ b∈x,b≠10):linT (x++10 :: t)=(x :: (linT t).1,(linT t).2):=by
 unfold linT
 rw[Kba t h]
 exact Kbh x (Kbe 10 t)
theorem Kbl(t:Str)(h:t.length≤1000000):Lap t=some (linT t):=by
 unfold Lap linT
 rw[Kaa (Kbg 10 h)]
 have hne:=Kbe 10 t
 have hlen:=(Kbf 10 t.length t (Nat.le_refl _)).2.2
 generalize Lib.split t [10]=L at hne hlen ⊢
 have h1:1≤L.length:=List.length_pos_iff.2 hne
 rw[show wi ((L.length:Int) - 1)=((L.length - 1:Nat):Int) from by rw[Ktc (by omega) (by omega)];omega]
 have hg:L[L.length - 1]?=some (L.getLast hne):=by rw[←List.getLast?_eq_getElem?,List.getLast?_eq_some_getLast hne]
 rw[Kaa (Ksy hg)]
 unfold linL
 rw[List.getLast?_eq_some_getLast hne]
 generalize L.getLast hne=z
 cases z with
 | nil=>
  show(bi (subZ L 0 ((L.length - 1:Nat):Int)) fun z6=>some (z6,true))=_
  have:=Ksx (l:=L) (i:=0) (j:=L.length - 1) (by omega) (by omega)
  rw[show(0:Int)=((0:Nat):Int) from rfl,Kaa this,List.drop_zero,List.dropLast_eq_take]
 | cons c z=>rfl
theorem Kbm(c:UInt8){s:Str}(h:s.length≤1000000):Ksd s [c]=some (cut1 s c):=by
 unfold Ksd
 show gd (Nat.ble s.length 1099511627776) (some (cut1 s c))=_
 rw[Nat.ble_eq_true_of_le (by omega)]
 rfl
end Go.Gk
namespace Go.Gk
def lows:Str:=[97,98,99,100,101,102,103,104,105,106,107,108,109,110,111,112,113,114,115,116,117,118,119,120,121,122]
def keys:Str:=[97,98,99,100,101,102,103,104,105,106,107,108,109,110,111,112,113,114,115,116,117,118,119,120,121,122,48,49,50,51,52,53,54,55,56,57,45,95]
def kB(i:Int)(c:UInt8):Bool:=(((decide (((c.toNat:Int):Int)≥97))&&(decide (((c.toNat:Int):Int)≤122)))||((decide ((i:Int)>0))&&((((decide (((c.toNat:Int):Int)≥48))&&(decide (((c.toNat:Int):Int)≤57)))||(((c.toNat:Int):Int)==45))||(((c.toNat:Int):Int)==95))))
theorem Kbs:∀ c:Fin 256,kB 0 (UInt8.ofNat c.val)=lows.contains (UInt8.ofNat c.val)∧kB 1 (UInt8.ofNat c.val)=keys.contains (UInt8.ofNat c.val)∧(lows.contains (UInt8.ofNat c.val)=true→keys.contains (UInt8.ofNat c.val)=true):=by decide +kernel
theorem Kbt(c:UInt8):kB 0 c=lows.contains c∧(lows.contains c=true→keys.contains c=true):=by
 have:=Kbs ⟨c.toNat,c.toNat_lt⟩
 rw[UInt8.ofNat_toNat] at this
 exact⟨this.1,this.2.2⟩
theorem Kbu(i:Nat)(h:0<i)(c:UInt8):kB (i:Int) c=keys.contains c:=by
 have:=(Kbs ⟨c.toNat,c.toNat_lt⟩).2.1
 rw[UInt8.ofNat_toNat] at this
 rw[←this]
 unfold kB
 rw[dT (show(i:Int)>0 by omega),dT (show(1:Int)>0 by decide)]
def kLoop(s:Str)(s2:Int):Option (LS Int (Unit ⊕ Bool)):=bif decide ((s2:Int)<(s.length:Int)) then(bi (getZ s s2) fun c12=>bif !(kB s2 c12) then(bi (some false) fun v=>some (.out (.inr v))) else(some (.go (wi (s2+1))))) else(some (.out (.inl ())))
theorem Kbv(k:Nat)(s:Str):Kyw k s=bi (loopM (kLoop s) k 0) fun q=>orI q fun a6=>some ((!((s:Str)==[]))&&(decide (((s.length:Int):Int)≤40))):=rfl
theorem Kbw(s:Str)(hl:s.length≤300000)(i:Nat)(hi:i<s.length):kLoop s (i:Int)=some (if kB (i:Int) s[i] then .go ((i+1:Nat):Int) else .out (.inr false)):=by
 have hg:getZ s (i:Int)=some s[i]:=Ksy (gGe hi)
 unfold kLoop
 rw[dT (show(i:Int)<(s.length:Int) by omega),cond_true,Kaa hg,Ktc (by omega) (by omega)]
 cases kB (i:Int) s[i]<;>rfl
theorem Kbx(s:Str):kLoop s (s.length:Int)=some (.out (.inl ())):=by
 unfold kLoop
 rw[dF (show ¬ (s.length:Int)<(s.length:Int) by omega)]
 rfl
theorem Kby(s:Str)(hl:s.length≤300000):∀ (n k i:Nat),n=s.length - i→0<i→i≤s.length→n<k→loopM (kLoop s) k (i:Int)=some (if (s.drop i).all (fun c=>keys.contains c) then .inl () else .inr false)
 | n,0,i,_,_,_,h=>absurd h (Nat.not_lt_zero _)
 | n,k+1,i,hn,h0,hi,hk=>by
  by_cases he:i<s.length
  ·have hdr:s.drop i=s[i] :: s.drop (i+1):=List.drop_eq_getElem_cons he
   have hstep:=Kbw s hl i he
   rw[Kbu i h0] at hstep
   rw[hdr,List.all_cons]
   cases hD:keys.contains s[i] with
   | false=>
    rw[hD] at hstep
    exact Kac _ hstep
   | true=>
    rw[hD] at hstep
    rw[Kab _ hstep,Bool.true_and]
    exact Kby s hl (n - 1) k (i+1) (by omega) (by omega) (by omega) (by omega)
  have:i=s.length:=by omega
  subst this
  rw[List.drop_length]
  exact Kac _ (Kbx s)
def keyB(s:Str):Bool:=decide (1≤s.length∧s.length≤40)&&((s.take 1).all (fun c=>lows.contains c)&&s.all (fun c=>keys.contains c))
theorem keyP(s:Str)(hs:s.length≤200000):Kyw 1000000 s=some (keyB s):=by
 rw[Kbv]
 cases s with
 | nil=>rfl
 | cons c t=>
  have h1:kLoop (c :: t) 0=some (if lows.contains c=true then .go ((1:Nat):Int) else .out (.inr false)):=by
   refine(Kbw (c :: t) (by omega) 0 (by simp)).trans ?_
   show some (if kB 0 c=true then LS.go ((1:Nat):Int) else LS.out (Sum.inr false))=_
   rw[(Kbt c).1]
  unfold keyB
  simp only[List.take_succ_cons,List.take_zero,List.all_cons,List.all_nil,Bool.and_true]
  cases hc:lows.contains c with
  | false=>
   rw[hc] at h1
   rw[Kaa (Kac _ h1),Bool.false_and,Bool.and_false]
   rfl
  | true=>
   rw[hc] at h1
   have h2:=Kby (c :: t) (by omega) ((c :: t).length - 1) 999999 1 rfl (by decide) (by simp) (by omega)
   rw[List.drop_one,List.tail_cons] at h2
   rw[Kaa ((Kab _ h1).trans h2),(Kbt c).2 hc,Bool.true_and,Bool.true_and]
   cases t.all fun c=>keys.contains c with
   | false=>rw[Bool.and_false];rfl
   | true=>
    rw[Bool.and_true]
    show some ((!((c :: t:Str)==[]))&&(decide ((((c :: t).length:Int):Int)≤40)))=_
    rw[Kaf,dF (show ¬ (c :: t).length=0 by simp)]
    congr 1
    rw[Bool.not_false,Bool.true_and]
    refine decide_eq_decide.2 ?_
    simp only[List.length_cons]
    omega
theorem keyR(s:Str)(hs:s.length≤200000):Kzw s=some (keyB s):=by
 unfold Kzw keyB
 rw[Kaa (Kah _ 1 40)]
 by_cases h:1≤s.length∧s.length≤40
 ·rw[dT h,dT (show(1:Int)≤(s.length:Int)∧(s.length:Int)≤40 by omega),cond_true]
  have h1:subZ s 0 1=some (s.take 1):=by
   have:=Ksx (l:=s) (i:=0) (j:=1) (by decide) h.1
   simpa using this
  have h2:=Kat (s.take 1) lows (by simp;omega) (by decide)
  have h3:=Kat s keys (by omega) (by decide)
  rw[Kaa h1]
  rw[show Kzv (s.take 1) [97,98,99,100,101,102,103,104,105,106,107,108,109,110,111,112,113,114,115,116,117,118,119,120,121,122]=_ from h2]
  cases (s.take 1).all fun c=>lows.contains c with
  | false=>rfl
  | true=>
   simp only[bi_some,cond_true,Bool.true_and]
   rw[show Kzv s [97,98,99,100,101,102,103,104,105,106,107,108,109,110,111,112,113,114,115,116,117,118,119,120,121,122,48,49,50,51,52,53,54,55,56,57,45,95]=_ from h3]
   rfl
 rw[dF h,dF (show ¬ ((1:Int)≤(s.length:Int)∧(s.length:Int)≤40) by omega)]
 rfl
end Go.Gk
namespace Go.Gk
theorem keyG(x:Str)(h:x.length≤200000):∃ b,Kyw 1000000 x=some b∧Kzw x=some b:=⟨_,keyP x h,keyR x h⟩
theorem in1L(n a b:Int):Kzx n a b=some (decide (a≤n∧n≤b)):=by
 unfold Kzx
 congr 1
 rw[Bool.eq_iff_iff]
 simp
theorem pubG(x:Str):∃ b,Kza x=some b∧Laa x=some b:=by
 unfold Kza Laa
 rw[in1L,bi_some,Kaf]
 by_cases h:1≤x.length∧x.length≤20
 ·rw[dT (show(1:Int)≤(x.length:Int)∧(x.length:Int)≤20 by omega),dF (show ¬ x.length=0 by omega),dT (show(x.length:Int)≤20 by omega)]
  have:Ksa x [48,49,50,51,52,53,54,55,56,57,97,98,99,100,101,102]=some (Lib.trimS x [48,49,50,51,52,53,54,55,56,57,97,98,99,100,101,102]):=by
   unfold Ksa
   rw[Nat.ble_eq_true_of_le (show x.length≤1099511627776 by omega)]
   rfl
  rw[this]
  exact⟨_,rfl,rfl⟩
 rw[dF (show ¬ ((1:Int)≤(x.length:Int)∧(x.length:Int)≤20) by omega)]
 have:((!decide (x.length=0))&&decide ((x.length:Int)≤20))=false:=by
  rw[Bool.eq_false_iff]
  intro h2
  simp only[Bool.and_eq_true,Bool.not_eq_true',decide_eq_false_iff_not,decide_eq_true_eq] at h2
  omega
 rw[this]
 exact⟨false,rfl,rfl⟩
theorem risG{l:List Str}(h:∀ x∈l,x.length≤200000)(hl:l.length≤100000):∃ e,Kzb 1000000 l=some e∧Lab l=some e:=by
 have e:Kzb 1000000 l=Lab l:=by
  unfold Kzb Lab
  rw[Ktl l 0 () fun j x s hx=>by rw[(keyP x (h x hx)).trans (keyR x (h x hx)).symm]]
 have o:Ok (Lab l) fun _=>True:=by
  unfold Lab
  refine Kvj (Kvp (fun _ _=>True) (fun _=>True) trivial fun i x s hx _=>?_) fun r _=>by cases r<;>exact Kvi trivial
  refine Kvk (keyR x (h x (mOg hx))) ?_
  refine Kvm (fun _=>Kvi trivial) fun _=>?_
  refine Kvj (Ktb hx hl fun y=>Kvi trivial) fun q _=>?_
  exact Kvm (fun _=>Kvi trivial) fun _=>Kvi trivial
 obtain⟨r,h1,_⟩:=o
 exact⟨r,e.trans h1,h1⟩
structure StepG(s:Kxx):Prop where
 sv:s.Server.length≤200000
 by_:s.By.length≤200000
 nd:s.Node.length≤200000
 jn:s.Join.length≤200000
 nm:s.Name.length≤200000
 tg:∀ x∈s.Tags,x.length≤200000
theorem Kbn:∀ x∈keyT,x.length≤10:=by decide
theorem Kbo:∀ l∈tagsT,∀ x∈l,x.length≤10:=by decide
theorem StepOk.g{s:Kxx}(h:StepOk s):StepG s:=⟨Nat.le_trans (Kbn _ h.sv) (by decide),Nat.le_trans (Kbn _ h.by_) (by decide),Nat.le_trans (Kbn _ (Kup _ h.nd)) (by decide),Nat.le_trans (Kbn _ (Kuq _ h.jn)) (by decide),Nat.le_trans (Kbn _ h.nm) (by decide),fun x hx=>Nat.le_trans (Kbo _ h.tg x hx) (by decide)⟩
theorem tagG(s:Kxx)(h:∀ x∈s.Tags,x.length≤200000):∃ e,Kze 1000000 s 5=some e∧Lac s 116=some e:=by
 by_cases hl:s.Tags.length≤10
 ·obtain⟨e,h1,h2⟩:=risG h (by omega)
  exact⟨e,pf5 s h1 hl,Lgf s h2 hl⟩
 refine⟨2,?_,?_⟩
 ·have:Kzc 1000000 s.Tags=some 2:=by
   unfold Kzc
   rw[dT (show((s.Tags.length:Int)>10) by omega)]
   rfl
  unfold Kze;rw[this];rfl
 unfold Lac
 rw[dT (show((s.Tags.length:Int)>10) by omega)]
 rfl
theorem Kbp(s:Kxx)(h:StepG s)(k1:1≤s.Kind)(k2:s.Kind≤9):∃ e,
  (bi (Kyy s.Kind) fun y17=>bi (rangeM (σ:=Unit) (ρ:=Int) (fun i19 x21 s20=>bi (Kze 1000000 s x21) fun y30=>bif (y30:Int) != 0 then(bi (some y30) fun v=>some (.out v)) else(some (.go ()))) 0 y17 ()) fun q=>goI q fun a24=>bi (loopM (σ:=Int) (ρ:=Unit ⊕ Int) (fun s37=>bif decide ((s37:Int)<9) then(bi (Kzg y17 s37) fun y47=>bi (bif !y47 then(bi (Kzh s s37) fun y52=>some (!y52)) else(some false)) fun q49=>bif q49 then(bi (some 3) fun v=>some (.out (.inr v))) else(some (.go (wi (s37+1))))) else(some (.out (.inl ())))) 1000000 0) fun q=>orI q fun a41=>some 0)=some e∧
  (bi (Kzy s.Kind) fun y17=>gd (asc y17) (bi (rangeM (σ:=Unit) (ρ:=Int) (fun sn23 x22 s21=>bi (Lac s (x22.toNat:Int)) fun y63=>bif (y63:Int) != 0 then(bi (some y63) fun v=>some (.out v)) else(some (.go ()))) 0 y17 ()) fun q=>goI q fun s21=>bi (Kzy s.Kind) fun y30=>bi (Ksp y30) fun y32=>bi (rangePM (σ:=Unit) (ρ:=Int) (fun x41 s40=>bi (bif !x41.2 then(bi (Ksi y32 x41.1) fun y54=>some (decide ((y54:Int)<0))) else(some false)) fun q51=>bif q51 then(bi (some 3) fun v=>some (.out v)) else(some (.go ()))) (mSet (mSet (mSet (mSet (mSet (mSet (mSet (mSet (mSet ([]:List (Int×Bool)) 98 ((s.By:Str)==[])) 110 ((s.Node:Str)==[])) 106 ((s.Join:Str)==[])) 112 ((s.Public:Str)==[])) 109 ((s.Name:Str)==[])) 116 (((s.Tags.length:Int):Int)==0)) 117 ((s.Until:Int)==0)) 115 ((s.Uses:Int)==0)) 114 (!s.Ready)) ()) fun q=>goI q fun s40=>some 0))=some e:=by
 obtain⟨b0,hb0,hb0'⟩:=keyG _ h.by_
 obtain⟨b1,hb1,hb1'⟩:=keyG _ h.nd
 obtain⟨b2,hb2,hb2'⟩:=keyG _ h.jn
 obtain⟨b4,hb4,hb4'⟩:=keyG _ h.nm
 obtain⟨b3,hb3,hb3'⟩:=pubG s.Public
 obtain⟨e5,P5,R116⟩:=tagG s h.tg
 have R98:=(rf98 s).trans (Ktz hb0')
 have R110:=(Lgb s).trans (Ktz hb1')
 have R106:=(Lgc s).trans (Ktz hb2')
 have R109:=(Lgd s).trans (Ktz hb4')
 have R66:=rf66 s;rw[Ktz hb0'] at R66
 have R74:=rf74 s;rw[Ktz hb2'] at R74
 have R112:=Lge s hb3'
 have R117:=Lgg s;have R115:=Lgh s;have R114:=Lgi s
 have P0:=pf0 s hb0;have P1:=pf1 s hb1;have P2:=pf2 s hb2;have P3:=pf3 s hb3;have P4:=pf4 s hb4;
 have P6:=pf6 s;have P7:=pf7 s;have P8:=pf8 s
 have Z0:=fun h0=>Kun hb0' h0
 have Z2:=fun h0=>Kun hb2' h0
 have K:s.Kind=1∨s.Kind=2∨s.Kind=3∨s.Kind=4∨s.Kind=5∨s.Kind=6∨s.Kind=7∨s.Kind=8∨s.Kind=9:=by omega
 have U:∀ {k:Int} {us:Str},s.Kind=k→Kzy k=some us→Kzy s.Kind=some us:=fun e h=>by rw[e];exact h
 have F:∀ {k:Int} {us:List Int},s.Kind=k→Kyy k=some us→Kyy s.Kind=some us:=fun e h=>by rw[e];exact h
 rcases K with K | K | K | K | K | K | K | K | K<;>rw[K] at P0 P2
 ·exact Lgk (fl:=[0,2,5,6,7,8]) (lo:=[98,106,116,117,115,114]) (vals:=[bif b0 then 0 else 5,bif b2 then 0 else 5,e5,_,_,0]) (by decide)
   (Kuo (F K rfl)<|Kuk s _ _ (by simp only[List.map_cons,List.map_nil,P0,P2,P5,P6,P7,P8];cases b0<;>cases b2<;>rfl))
   (Kuo (U K rfl)<|Kul s _ _ _ rfl rfl (U K rfl) (by
    show[Lac s 98,Lac s 106,Lac s 116,Lac s 117,Lac s 115,Lac s 114]=_
    rw[R98,R106,R116,R117,R115,R114];rfl))
 ·exact Lgk (fl:=[0,2]) (lo:=[98,106]) (vals:=[bif b0 then 0 else 5,bif b2 then 0 else 5]) (by decide)
   (Kuo (F K rfl)<|Kuk s _ _ (by simp only[List.map_cons,List.map_nil,P0,P2];cases b0<;>cases b2<;>rfl))
   (Kuo (U K rfl)<|Kul s _ _ _ rfl rfl (U K rfl) (by
    show[Lac s 98,Lac s 106]=_
    rw[R98,R106];rfl))
 ·exact Lgk (fl:=[0,1,2,3,4]) (lo:=[98,110,106,112,109]) (vals:=[bif b0||(s.By==[]) then 0 else 5,bif b1 then 0 else 5,bif b2||(s.Join==[]) then 0 else 5,bif b3 then 0 else 5,bif b4 then 0 else 5]) (by decide)
   (Kuo (F K rfl)<|Kuk s _ _ (by simp only[List.map_cons,List.map_nil,P0,P1,P2,P3,P4];rfl))
   (Kuo (U K rfl)<|Kul s _ _ _ rfl rfl (U K rfl) (by
    show[Lac s 66,Lac s 110,Lac s 74,Lac s 112,Lac s 109]=_
    rw[R66,R110,R74,R112,R109]
    cases (s.By==[])<;>cases (s.Join==[])<;>cases b0<;>cases b2<;>rfl))
 ·exact Lgk (fl:=[0,1]) (lo:=[98,110]) (vals:=[bif b0 then 0 else 5,bif b1 then 0 else 5]) (by decide)
   (Kuo (F K rfl)<|Kuk s _ _ (by simp only[List.map_cons,List.map_nil,P0,P1];cases b0<;>cases b1<;>rfl))
   (Kuo (U K rfl)<|Kul s _ _ _ rfl rfl (U K rfl) (by
    show[Lac s 98,Lac s 110]=_
    rw[R98,R110];rfl))
 ·exact Lgk (fl:=[0,1,3]) (lo:=[98,110,112]) (vals:=[bif b0 then 0 else 5,bif b1 then 0 else 5,bif b3 then 0 else 5]) (by decide)
   (Kuo (F K rfl)<|Kuk s _ _ (by simp only[List.map_cons,List.map_nil,P0,P1,P3];cases b0<;>cases b1<;>rfl))
   (Kuo (U K rfl)<|Kul s _ _ _ rfl rfl (U K rfl) (by
    show[Lac s 98,Lac s 110,Lac s 112]=_
    rw[R98,R110,R112];rfl))
 ·exact Lgk (fl:=[0,1,4]) (lo:=[98,110,109]) (vals:=[bif b0 then 0 else 5,bif b1 then 0 else 5,bif b4 then 0 else 5]) (by decide)
   (Kuo (F K rfl)<|Kuk s _ _ (by simp only[List.map_cons,List.map_nil,P0,P1,P4];cases b0<;>cases b1<;>rfl))
   (Kuo (U K rfl)<|Kul s _ _ _ rfl rfl (U K rfl) (by
    show[Lac s 98,Lac s 110,Lac s 109]=_
    rw[R98,R110,R109];rfl))
 ·exact Lgk (fl:=[0,1,5]) (lo:=[98,110,116]) (vals:=[bif b0 then 0 else 5,bif b1 then 0 else 5,e5]) (by decide)
   (Kuo (F K rfl)<|Kuk s _ _ (by simp only[List.map_cons,List.map_nil,P0,P1,P5];cases b0<;>cases b1<;>rfl))
   (Kuo (U K rfl)<|Kul s _ _ _ rfl rfl (U K rfl) (by
    show[Lac s 98,Lac s 110,Lac s 116]=_
    rw[R98,R110,R116];rfl))
 all_goals
  exact Lgk (fl:=[0,1]) (lo:=[98,110]) (vals:=[bif b0 then 0 else 5,bif b1 then 0 else 5]) (by decide)
   (Kuo (F K rfl)<|Kuk s _ _ (by simp only[List.map_cons,List.map_nil,P0,P1];cases b0<;>cases b1<;>rfl))
   (Kuo (U K rfl)<|Kul s _ _ _ rfl rfl (U K rfl) (by
    show[Lac s 98,Lac s 110]=_
    rw[R98,R110];rfl))
theorem Kbq{s:Kxx}(h:StepG s):∃ e,Kzi 1000000 s=some e∧Lad s=some e:=by
 obtain⟨b,hb,hb'⟩:=Kum s.At
 obtain⟨c,hc,hc'⟩:=keyG _ h.sv
 obtain⟨d,hd,hd'⟩:=Ktn s.No 1 1000000
 obtain⟨f,hf,hf'⟩:=Ktn s.Kind 1 9
 unfold Kzi Lad
 rw[hb,hb',bi_some,bi_some]
 cases b with
 | false=>exact⟨1,rfl,rfl⟩
 | true=>
  simp only[Bool.not_true,cond_false]
  rw[hc,hc',bi_some,bi_some]
  cases c with
  | false=>exact⟨5,rfl,rfl⟩
  | true=>
   simp only[Bool.not_true,cond_false]
   rw[hd,hd',bi_some,bi_some]
   cases d with
   | true=>exact⟨1,rfl,rfl⟩
   | false=>
    simp only[Bool.not_false,Bool.not_true,cond_false]
    rw[hf,hf',bi_some,bi_some]
    cases f with
    | true=>exact⟨4,rfl,rfl⟩
    | false=>
     simp only[Bool.not_false,Bool.not_true,cond_false]
     have:1≤s.Kind∧s.Kind≤9:=by
      unfold Kzx at hf'
      simpa using hf'
     exact Kbp s h this.1 this.2
theorem Kbr{l:List Kxx}(h:∀ x∈l,StepG x)(hl:l.length≤2000):∃ e,Kzl 1000000 l=some e∧Lah l=some e∧(e=0→∀ x∈l,Lad x=some 0):=by
 have key:Two (Kzl 1000000 l) (Lah l) fun a b=>a=b∧(b=0→∀ x∈l,Lad x=some 0):=by
  unfold Kzl Lah
  rw[dF (show ¬ ((l.length:Int)>2000) by omega)]
  simp only[cond_false]
  refine Kvv (Kvx (fun i (s:List (Kxy×Bool)) (_:Unit)=>(∀ y,(mGet s (og y)).getD false=(l.take i).any fun z=>sameO z y)∧∀ (j:Nat) x,j<i→l[j]?=some x→Lad x=some 0) (fun a b=>a=b∧b≠0) ⟨fun y=>by simp[mGet],fun j x hj=>absurd hj (by omega)⟩ fun i x s t hx hI=>?_) fun r q hr=>?_
  ·obtain⟨e,h1,h2⟩:=Kbq (h x (mOg hx))
   rw[h1,h2,bi_some,bi_some]
   refine Kvw rfl (fun he=>Kvt ⟨rfl,by simpa using he⟩) fun he0=>?_
   obtain⟨b,h3,h4⟩:=Kvf hx (by omega)
   have hi:i<l.length:=(gEs.1 hx).1
   rw[h3,h4,bi_some,bi_some]
   refine Kvw rfl (fun he=>Kvt ⟨rfl,by decide⟩) fun _=>?_
   rw[show subZ l 0 (i:Int)=some (l.take i) from(Ksx (i:=0) (Nat.zero_le _) (by omega)).trans rfl]
   refine Kvu rfl ?_
   refine Kvu (Kvd _ _) ?_
   show Two (bif (mGet s (og x)).getD false then _ else some (LS.go (mSet s (og x) true))) _ _
   refine Kvw (hI.1 x) (fun he=>Kvt ⟨rfl,by decide⟩) fun he=>Kvt ⟨fun y=>?_,fun j z hj hz=>?_⟩
   ·rw[Kva,Kvb,Kve hx,List.any_append]
    simp only[List.any_cons,List.any_nil,Bool.or_false]
    cases hs:sameO x y with
    | true=>simp
    | false=>simpa using hI.1 y
   by_cases hji:j=i
   ·subst hji
    rw[hx] at hz;cases hz
    rw[h2,show e=0 from by simpa using he0]
   exact hI.2 j z (by omega) hz
  cases r with
  | out a=>
   cases q with
   | out b=>exact Kvt ⟨hr.1,fun h0=>absurd h0 hr.2⟩
   | go t=>exact hr.elim
  | go s=>
   cases q with
   | out b=>exact hr.elim
   | go t=>exact Kvt ⟨rfl,fun _ x hx=>by
    obtain⟨i,hi⟩:=List.getElem?_of_mem hx
    exact hr.2 i x (gEs.1 hi).1 hi⟩
 obtain⟨a,b,h1,h2,rfl,h3⟩:=key
 exact⟨a,h1,h2,h3⟩
theorem Lft{l:List Kxx}(h:∀ x∈l,StepG x):∃ e,Kzl 1000000 l=some e∧Lah l=some e∧(e=0→l.length≤2000∧∀ x∈l,Lad x=some 0):=by
 by_cases hl:l.length≤2000
 ·obtain⟨e,h1,h2,h3⟩:=Kbr h hl
  exact⟨e,h1,h2,fun h0=>⟨hl,h3 h0⟩⟩
 refine⟨2,?_,?_,fun h0=>by cases h0⟩
 ·unfold Kzl
  rw[dT (show((l.length:Int)>2000) by omega)]
  rfl
 unfold Lah
 rw[dT (show((l.length:Int)>2000) by omega)]
 rfl
end Go.Gk
