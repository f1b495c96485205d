import Derived.Test.YtfnjahjbpaoepaaGreatDoorIHex
set_option linter.all false
set_option maxRecDepth 100000
namespace Go.Gk
def grB(x:Str):Bool:=decide (1≤x.length∧x.length≤4)&&x.all fun c=>hexs.contains c
abbrev GS:Type:=LS (List Int) ((List Int)×Bool)
def grpP(n:Nat)(last:Bool)(i5:Nat)(x7:Str)(s6:List Int):Option GS:=bi (bif (last&&(((i5:Int):Int)==(wi ((n:Int) - 1)))) then(bi (Ktx x7 [46]) fun y19=>some y19) else(some false)) fun q16=>bif q16 then(bi (Lbh 40000 x7) fun y23=>bi (apd s6 [shrV .u64 y23.1 16,bitsV .and .u64 y23.1 65535]) fun y25=>bi (some (y25,y23.2)) fun v=>some (.out v)) else(bi (bif (((x7:Str)==[])||(decide (((x7.length:Int):Int)>4))) then(some true) else(bi (Ktr x7 [48,49,50,51,52,53,54,55,56,57,97,98,99,100,101,102,65,66,67,68,69,70]) fun y34=>some (!((y34:Str)==[])))) fun q30=>bif q30 then(bi (some ([],false)) fun v=>some (.out v)) else(bi (Kue x7 16 64) fun y40=>match y40 with | none=>(bi (some ([],false)) fun v=>some (.out v)) | some z42=>(bi (apd s6 [z42]) fun y47=>some (.go y47))))
def grpR(n:Nat)(tail:Bool)(i5:Nat)(x7:Str)(s6:List Int):Option GS:=bi (Lbr x7) fun y16=>bif ((y16.2&&tail)&&(((i5:Int):Int)==(wi ((n:Int) - 1)))) then(bi (apd s6 [shrV .u64 y16.1 16,bitsV .and .u64 y16.1 65535]) fun y19=>some (.go y19)) else(bi (Lbq (x7.length:Int) 1 4) fun y22=>bi (bif !y22 then(some true) else(bi (Lbo x7 [48,49,50,51,52,53,54,55,56,57,97,98,99,100,101,102,65,66,67,68,69,70]) fun y28=>some (!y28))) fun q24=>bif q24 then(bi (some ([],false)) fun v=>some (.out v)) else(bi (Kue x7 16 32) fun y34=>match y34 with | none=>(bi (some ([],false)) fun v=>some (.out v)) | some z36=>(bi (apd s6 [z36]) fun y41=>some (.go y41))))
theorem Knc(i n:Nat)(hn:n≤1000000)(hi:i<n):(((i:Int):Int)==(wi ((n:Int) - 1)))=decide (i+1=n):=by
 rw[Kwl (by omega) (by omega)]
 by_cases h:i+1=n
 ·rw[dT h,beq_iff_eq.2 (by omega)]
 rw[dF h,beq_eq_false_iff_ne.2 (by omega)]
theorem Knd(x:Str):((x:Str)==[])=decide (x.length=0):=by cases x<;>rfl
theorem Kne{x:Str}(h:x.contains 46=true):(x.all fun c=>hexs.contains c)=false:=Bool.eq_false_iff.2 fun hc=>by
 have:=lAe.1 hc 46 (List.contains_iff_mem.1 h)
 exact absurd this (by decide)
theorem Knf(x:Str)(s:List Int)(hx:x.length≤1000000)(hs:s.length≤1000000):(bi (bif (((x:Str)==[])||(decide (((x.length:Int):Int)>4))) then(some true) else(bi (Ktr x [48,49,50,51,52,53,54,55,56,57,97,98,99,100,101,102,65,66,67,68,69,70]) fun y34=>some (!((y34:Str)==[])))) fun q30=>bif q30 then(bi (some ([],false)) fun v=>some (.out v)) else(bi (Kue x 16 64) fun y40=>match y40 with | none=>(bi (some ([],false)) fun v=>some (.out v)) | some z42=>(bi (apd s [z42]) fun y47=>some (.go y47))):Option GS)=some (if grB x then .go (s++[(hexN x:Int)]) else .out ([],false)):=by
 by_cases hl:1≤x.length∧x.length≤4
 ·rw[Knd,dF (show ¬ x.length=0 by omega),dF (show ¬ ((x.length:Int)>4) by omega)]
  have ht:Ktr x hexs=some (Lib.trimS x hexs):=by
   unfold Ktr
   rw[Nat.ble_eq_true_of_le (show x.length≤1099511627776 by omega)]
   rfl
  rw[show[48,49,50,51,52,53,54,55,56,57,97,98,99,100,101,102,65,66,67,68,69,70]=hexs from rfl,Koo ht,Kpv]
  unfold grB
  rw[dT hl,Bool.true_and]
  cases ha:x.all fun c=>hexs.contains c with
  | false=>rfl
  | true=>
   have hn:(x==[])=false:=by rw[Knd];exact dF (by omega)
   have hp:=(Lhx x hn ha hl.2).1
   simp only[Bool.false_or,cond_false,bi_some,Bool.not_true,if_true]
   rw[Koo hp]
   simp only[]
   rw[Koo (Kws (by simp;omega))]
 unfold grB
 rw[dF hl,Knd]
 rcases(show x.length=0∨¬ x.length=0∧x.length>4 by omega) with h | ⟨h,h'⟩
 ·rw[dT h];rfl
 rw[dF h,dT (show((x.length:Int)>4) by omega)];rfl
theorem Kng(x:Str)(s:List Int)(hx:x.length≤1000000)(hs:s.length≤1000000):(bi (Lbq (x.length:Int) 1 4) fun y22=>bi (bif !y22 then(some true) else(bi (Lbo x [48,49,50,51,52,53,54,55,56,57,97,98,99,100,101,102,65,66,67,68,69,70]) fun y28=>some (!y28))) fun q24=>bif q24 then(bi (some ([],false)) fun v=>some (.out v)) else(bi (Kue x 16 32) fun y34=>match y34 with | none=>(bi (some ([],false)) fun v=>some (.out v)) | some z36=>(bi (apd s [z36]) fun y41=>some (.go y41))):Option GS)=some (if grB x then .go (s++[(hexN x:Int)]) else .out ([],false)):=by
 rw[Koo (Kpt _ 1 4)]
 by_cases hl:1≤x.length∧x.length≤4
 ·rw[dT (show(1:Int)≤(x.length:Int)∧(x.length:Int)≤4 by omega)]
  have ho:=Kqf x hexs hx (by decide)
  rw[show[48,49,50,51,52,53,54,55,56,57,97,98,99,100,101,102,65,66,67,68,69,70]=hexs from rfl,Koo ho]
  unfold grB
  rw[dT hl,Bool.true_and]
  cases ha:x.all fun c=>hexs.contains c with
  | false=>rfl
  | true=>
   have hn:(x==[])=false:=by rw[Knd];exact dF (by omega)
   have hp:=(Lhx x hn ha hl.2).2
   simp only[cond_false,bi_some,Bool.not_true,if_true]
   rw[Koo hp]
   simp only[]
   rw[Koo (Kws (by simp;omega))]
 rw[dF (show ¬ ((1:Int)≤(x.length:Int)∧(x.length:Int)≤4) by omega)]
 unfold grB
 rw[dF hl]
 rfl
theorem Knh{α σ ρ:Type}{f:Nat→α→σ→Option (LS σ ρ)}{i:Nat}{x:α}{l:List α}{s:σ}{r:ρ}(h:f i x s=some (.out r)):rangeM f i (x :: l) s=some (.out r):=by simp only[rangeM,h]
theorem Kni{α σ ρ:Type}{f:Nat→α→σ→Option (LS σ ρ)}{i:Nat}{x:α}{l:List α}{s t:σ}(h:f i x s=some (.go t)):rangeM f i (x :: l) s=rangeM f (i+1) l t:=by simp only[rangeM,h]
def finG:GS→(List Int)×Bool
 | .go s=>(s,true)
 | .out r=>r
theorem Knj(n:Nat)(tl:Bool)(hn:n≤200000):∀ (l:List Str) (i:Nat) (s:List Int),i+l.length=n→s.length≤i→(∀ x∈l,x.length≤100000)→
  ∃ p q,rangeM (grpP n tl) i l s=some p∧rangeM (grpR n tl) i l s=some q∧(finG p).2=(finG q).2∧((finG p).2=true→(finG p).1=(finG q).1)∧(finG p).1.length≤n+1∧(finG q).1.length≤n+1
 | [],i,s,hi,hs,_=>⟨.go s,.go s,rfl,rfl,rfl,fun _=>rfl,by show s.length≤n+1;omega,by show s.length≤n+1;omega⟩
 | x :: l,i,s,hi,hs,hx=>by
  have hi':i+(l.length+1)=n:=hi
  have hx0:=hx x (by simp)
  obtain⟨v,f1,f2,f3,f4⟩:=Kmz x hx0
  have hP:∀ r,(bif tl&&decide (i+1=n) then some (x.contains 46) else some false)=some r→grpP n tl i x s=(bif r then some (.out (s++[shrV .u64 v 16,bitsV .and .u64 v 65535],fourB x)) else some (if grB x then .go (s++[(hexN x:Int)]) else .out ([],false)):Option GS):=by
   intro r hr
   unfold grpP
   rw[Knc i n (by omega) (by omega),Kqv 46 (by omega),bi_some,Koo hr]
   cases r with
   | true=>
    rw[cond_true,cond_true,Koo f1]
    simp only[]
    rw[Koo (Kws (by simp;omega))]
    rfl
   | false=>
    rw[cond_false,cond_false]
    exact Knf x s (by omega) (by omega)
  have hR:grpR n tl i x s=(bif (fourB x&&tl)&&decide (i+1=n) then some (.go (s++[shrV .u64 v 16,bitsV .and .u64 v 65535])) else some (if grB x then .go (s++[(hexN x:Int)]) else .out ([],false)):Option GS):=by
   unfold grpR
   rw[Koo f2]
   simp only[]
   rw[Knc i n (by omega) (by omega)]
   cases (fourB x&&tl)&&decide (i+1=n) with
   | true=>
    rw[cond_true,cond_true,Koo (Kws (by simp;omega))]
   | false=>
    rw[cond_false,cond_false]
    exact Kng x s (by omega) (by omega)
  have hdot:x.contains 46=true→grB x=false:=fun h=>by unfold grB;rw[Kne h,Bool.and_false]
  by_cases hc:tl=true∧i+1=n∧x.contains 46=true
  ·obtain⟨c1,c2,c3⟩:=hc
   subst c1
   have hl:l=[]:=List.eq_nil_of_length_eq_zero (by omega)
   subst hl
   have hP':=hP true (by rw[dT c2,c3];rfl)
   rw[cond_true] at hP'
   cases hf:fourB x with
   | true=>
    rw[hf,dT c2] at hR
    rw[hf] at hP'
    refine⟨_,_,Knh hP',Kni hR,rfl,fun _=>rfl,?_,?_⟩
    ·show(s++[_,_]).length≤n+1;simp;omega
    ·show(s++[_,_]).length≤n+1;simp;omega
   | false=>
    rw[hf,hdot c3] at hR
    rw[hf] at hP'
    refine⟨_,_,Knh hP',Knh hR,rfl,fun h=>?_,?_,?_⟩
    ·cases h
    ·show(s++[_,_]).length≤n+1;simp;omega
    ·show([]:List Int).length≤n+1;simp
  ·have hP':=hP false (by
    by_cases c1:tl=true
    ·by_cases c2:i+1=n
     ·rw[c1,dT c2,Bool.eq_false_iff.2 fun h=>hc ⟨c1,c2,h⟩];rfl
     ·rw[dF c2,Bool.and_false];rfl
    ·rw[Bool.eq_false_iff.2 c1];rfl)
   rw[cond_false] at hP'
   have hR':grpR n tl i x s=some (if grB x then .go (s++[(hexN x:Int)]) else .out ([],false)):=by
    rw[hR]
    have:((fourB x&&tl)&&decide (i+1=n))=false:=Bool.eq_false_iff.2 fun h=>by
     simp only[Bool.and_eq_true,decide_eq_true_eq] at h
     exact hc ⟨h.1.2,h.2,Kna h.1.1⟩
    rw[this,cond_false]
   cases hg:grB x with
   | true=>
    rw[hg,if_pos rfl] at hP' hR'
    obtain⟨p,q,h1,h2,h3⟩:=Knj n tl hn l (i+1) (s++[(hexN x:Int)]) (by omega) (by simp;omega) fun y hy=>hx y (by simp[hy])
    exact⟨p,q,(Kni hP').trans h1,(Kni hR').trans h2,h3⟩
   | false=>
    rw[hg,if_neg (by decide)] at hP' hR'
    exact⟨_,_,Knh hP',Knh hR',rfl,fun _=>rfl,by show([]:List Int).length≤n+1;simp,by show([]:List Int).length≤n+1;simp⟩
theorem Knk(s:Str)(last:Bool):Lbi 40000 s last=bif (s:Str)==[] then(some ([],true)) else(bi (Kts s [58]) fun y3=>bi (rangeM (grpP y3.length last) 0 y3 ([]:List Int)) fun q=>goI q fun a10=>some (a10,true)):=rfl
theorem Knl(s:Str)(tail:Bool):Lbs s tail=bif (s:Str)==[] then(some ([],true)) else(bi (Kts s [58]) fun y3=>bi (rangeM (grpR y3.length tail) 0 y3 ([]:List Int)) fun q=>goI q fun a10=>some (a10,true)):=rfl
theorem Knm(q:GS):(goI q fun a10=>some (a10,true))=some (finG q):=by cases q<;>rfl
theorem Knn(s:Str)(tl:Bool)(hs:s.length≤100000):∃ p q,Lbi 40000 s tl=some p∧Lbs s tl=some q∧p.2=q.2∧(p.2=true→p.1=q.1)∧p.1.length≤s.length+2∧q.1.length≤s.length+2∧(s=[]→p=([],true)∧q=([],true)):=by
 rw[Knk,Knl]
 cases h:(s==[]) with
 | true=>exact⟨([],true),([],true),rfl,rfl,rfl,fun _=>rfl,by simp,by simp,fun _=>⟨rfl,rfl⟩⟩
 | false=>
  obtain⟨m1,_,m3⟩:=Kqs 58 s.length s (Nat.le_refl _)
  rw[cond_false,cond_false,Koo (Kqw 58 (by omega)),Koo (Kqw 58 (by omega))]
  obtain⟨p,q,h1,h2,h3,h4,h5,h6⟩:=Knj (Lib.split s [58]).length tl (by omega) (Lib.split s [58]) 0 [] (by omega) (by simp) fun x hx=>by have:=(m1 x hx).1;omega
  rw[Koo h1,Koo h2,Knm,Knm]
  exact⟨_,_,rfl,rfl,h3,h4,by omega,by omega,fun hn=>by rw[hn] at h;cases h⟩
end Go.Gk
