import Derived.Test.YtfnjahjbpaoepaaGreatDoorIGroup
set_option linter.all false
set_option maxRecDepth 100000
namespace Go.Gk
def oS(x y:Int):Int:=bitsV .or .u64 (shlV .u64 x 16) y
def hi4(a b c d:Int):Int:=oS (oS (oS (oS 0 a) b) c) d
theorem Kpg(x y:Int):0≤oS x y∧oS x y<18446744073709551616:=⟨u64N _,u64L _⟩
theorem mixP(g0 g1 g2 g3 g4 g5 g6 g7:Int):loopM (σ:=Kya×Int) (ρ:=Kya) (fun s20=>bif decide ((s20.2:Int)<4) then(bi (getZ ([g0,g1,g2,g3,g4,g5,g6,g7]:List Int) s20.2) fun x30=>bi (getZ ([g0,g1,g2,g3,g4,g5,g6,g7]:List Int) (wi (4+s20.2))) fun x32=>some (.go ((⟨s20.1.Six,bitsV .or .u64 (shlV .u64 s20.1.Hi 16) x30,bitsV .or .u64 (shlV .u64 s20.1.Lo 16) x32⟩:Kya),wi (s20.2+1)))) else(some (.out s20.1))) 40000 ((⟨true,0,0⟩:Kya),0)=some ⟨true,hi4 g0 g1 g2 g3,hi4 g4 g5 g6 g7⟩:=by
 rw[Knr ((⟨true,oS 0 g0,oS 0 g4⟩:Kya),1) rfl]
 rw[Knr ((⟨true,oS (oS 0 g0) g1,oS (oS 0 g4) g5⟩:Kya),2) rfl]
 rw[Knr ((⟨true,oS (oS (oS 0 g0) g1) g2,oS (oS (oS 0 g4) g5) g6⟩:Kya),3) rfl]
 rw[Knr ((⟨true,hi4 g0 g1 g2 g3,hi4 g4 g5 g6 g7⟩:Kya),4) rfl]
 exact Kns _ rfl
theorem mixR{E1:Int→Option Int}{E2:Int→Int→Option Int}{a0 a1 a2 a3 a4 a5 a6 a7 g0 g1 g2 g3 g4 g5 g6 g7:Int}(e0:E1 0=some a0)(e1:E1 1=some a1)(e2:E1 2=some a2)(e3:E1 3=some a3)(e4:E1 4=some a4)(e5:E1 5=some a5)(e6:E1 6=some a6)(e7:E1 7=some a7)
  (f0:E2 0 a0=some g0) (f1:E2 1 a1=some g1) (f2:E2 2 a2=some g2) (f3:E2 3 a3=some g3) (f4:E2 4 a4=some g4) (f5:E2 5 a5=some g5) (f6:E2 6 a6=some g6) (f7:E2 7 a7=some g7) :
  loopM (σ:=Int×Int×Int) (ρ:=Kya) (fun s14=>bif decide ((s14.2.2:Int)<8) then(bi (E1 s14.2.2) fun q24=>bi (E2 s14.2.2 q24) fun q30=>bif decide ((s14.2.2:Int)<4) then(some (.go (bitsV .or .u64 (shlV .u64 s14.1 16) q30,s14.2.1,wi (s14.2.2+1)))) else(some (.go (s14.1,bitsV .or .u64 (shlV .u64 s14.2.1 16) q30,wi (s14.2.2+1))))) else(some (.out (⟨true,s14.1,s14.2.1⟩:Kya)))) 40000 (0,0,0)=some ⟨true,hi4 g0 g1 g2 g3,hi4 g4 g5 g6 g7⟩:=by
 rw[Knr (oS 0 g0,0,1) (by show bi (E1 0) _=_;rw[e0];show bi (E2 0 a0) _=_;rw[f0];rfl)]
 rw[Knr (oS (oS 0 g0) g1,0,2) (by show bi (E1 1) _=_;rw[e1];show bi (E2 1 a1) _=_;rw[f1];rfl)]
 rw[Knr (oS (oS (oS 0 g0) g1) g2,0,3) (by show bi (E1 2) _=_;rw[e2];show bi (E2 2 a2) _=_;rw[f2];rfl)]
 rw[Knr (hi4 g0 g1 g2 g3,0,4) (by show bi (E1 3) _=_;rw[e3];show bi (E2 3 a3) _=_;rw[f3];rfl)]
 rw[Knr (hi4 g0 g1 g2 g3,oS 0 g4,5) (by show bi (E1 4) _=_;rw[e4];show bi (E2 4 a4) _=_;rw[f4];rfl)]
 rw[Knr (hi4 g0 g1 g2 g3,oS (oS 0 g4) g5,6) (by show bi (E1 5) _=_;rw[e5];show bi (E2 5 a5) _=_;rw[f5];rfl)]
 rw[Knr (hi4 g0 g1 g2 g3,oS (oS (oS 0 g4) g5) g6,7) (by show bi (E1 6) _=_;rw[e6];show bi (E2 6 a6) _=_;rw[f6];rfl)]
 rw[Knr (hi4 g0 g1 g2 g3,hi4 g4 g5 g6 g7,8) (by show bi (E1 7) _=_;rw[e7];show bi (E2 7 a7) _=_;rw[f7];rfl)]
 exact Kns _ rfl
def gAt(l r:List Int)(i:Nat):Int:=cpA (8 - r.length) r i (cpA 0 l i 0)
def lE1(l:List Int)(i:Int):Option Int:=bif decide (i<(l.length:Int)) then(bi (getZ l i) fun x27=>some x27) else(some 0)
def lE2(found:Bool)(r:List Int)(i q24:Int):Option Int:=bif ((decide ((wi (i - (wi (8 - (r.length:Int)))):Int)≥0))&&found) then(bi (getZ r (wi (i - (wi (8 - (r.length:Int)))))) fun x33=>some x33) else(some q24)
theorem Kph(found:Bool)(l r:List Int)(hl:l.length≤8)(hr:r.length≤8)(hf:found=false→r=[])(i:Nat)(hi:i<8):lE1 l (i:Int)=some (cpA 0 l i 0)∧lE2 found r (i:Int) (cpA 0 l i 0)=some (gAt l r i):=by
 constructor
 ·unfold lE1 cpA
  rw[Nat.ble_eq_true_of_le (Nat.zero_le i),cond_true,Nat.sub_zero]
  by_cases h:i<l.length
  ·rw[dT (show(i:Int)<(l.length:Int) by omega),cond_true,Koo (Kxd (gGe h)),gGe h]
   rfl
  rw[dF (show ¬ (i:Int)<(l.length:Int) by omega),List.getElem?_eq_none (by omega)]
  rfl
 unfold gAt
 generalize cpA 0 l i 0=c
 unfold lE2 cpA
 rw[Kwl (n:=8 - (r.length:Int)) (by omega) (by omega),Kwl (by omega) (by omega)]
 by_cases h:8 - r.length≤i
 ·rw[dT (show(i:Int) - (8 - (r.length:Int))≥0 by omega),Nat.ble_eq_true_of_le h,cond_true]
  cases found with
  | false=>
   have:=hf rfl
   subst this
   rfl
  | true=>
   have hg:i - (8 - r.length)<r.length:=by omega
   rw[Bool.true_and,cond_true,show(i:Int) - (8 - (r.length:Int))=((i - (8 - r.length):Nat):Int) by omega,Koo (Kxd (gGe hg)),gGe hg]
   rfl
 rw[dF (show ¬ ((i:Int) - (8 - (r.length:Int))≥0) by omega)]
 have hb:Nat.ble (8 - r.length) i=false:=by
  cases hc:Nat.ble (8 - r.length) i with
  | false=>rfl
  | true=>exact absurd (nBe hc) h
 rw[hb]
 rfl
def mixA(l r:List Int):Kya:=⟨true,hi4 (gAt l r 0) (gAt l r 1) (gAt l r 2) (gAt l r 3),hi4 (gAt l r 4) (gAt l r 5) (gAt l r 6) (gAt l r 7)⟩
theorem Kpi(l r:List Int):AOk (mixA l r):=⟨(Kpg _ _).1,(Kpg _ _).2,(Kpg _ _).1,(Kpg _ _).2⟩
theorem Kpj(found:Bool)(l r:List Int)(hl:l.length≤8)(hr:r.length≤8)(hf:found=false→r=[]) :
  loopM (σ:=Int×Int×Int) (ρ:=Kya) (fun s14=>bif decide ((s14.2.2:Int)<8) then(bi (lE1 l s14.2.2) fun q24=>bi (lE2 found r s14.2.2 q24) fun q30=>bif decide ((s14.2.2:Int)<4) then(some (.go (bitsV .or .u64 (shlV .u64 s14.1 16) q30,s14.2.1,wi (s14.2.2+1)))) else(some (.go (s14.1,bitsV .or .u64 (shlV .u64 s14.2.1 16) q30,wi (s14.2.2+1))))) else(some (.out (⟨true,s14.1,s14.2.1⟩:Kya)))) 40000 (0,0,0)=some (mixA l r):=by
 have h:=Kph found l r hl hr hf
 have h0:=h 0 (by decide);have h1:=h 1 (by decide);have h2:=h 2 (by decide);have h3:=h 3 (by decide)
 have h4:=h 4 (by decide);have h5:=h 5 (by decide);have h6:=h 6 (by decide);have h7:=h 7 (by decide)
 exact mixR h0.1 h1.1 h2.1 h3.1 h4.1 h5.1 h6.1 h7.1 h0.2 h1.2 h2.2 h3.2 h4.2 h5.2 h6.2 h7.2
def mixIn(l r:List Int):Option (Kya×Int):=gd (decide ((0:Int)≤(wi (8 - (r.length:Int))))&&decide ((wi (8 - (r.length:Int)))≤((8:Nat):Int))) (bi (loopM (σ:=Kya×Int) (ρ:=Kya) (fun s20=>bif decide ((s20.2:Int)<4) then(bi (getZ ([cpA (wi (8 - (r.length:Int))).toNat r 0 (cpA (0:Int).toNat l 0 0),cpA (wi (8 - (r.length:Int))).toNat r 1 (cpA (0:Int).toNat l 1 0),cpA (wi (8 - (r.length:Int))).toNat r 2 (cpA (0:Int).toNat l 2 0),cpA (wi (8 - (r.length:Int))).toNat r 3 (cpA (0:Int).toNat l 3 0),cpA (wi (8 - (r.length:Int))).toNat r 4 (cpA (0:Int).toNat l 4 0),cpA (wi (8 - (r.length:Int))).toNat r 5 (cpA (0:Int).toNat l 5 0),cpA (wi (8 - (r.length:Int))).toNat r 6 (cpA (0:Int).toNat l 6 0),cpA (wi (8 - (r.length:Int))).toNat r 7 (cpA (0:Int).toNat l 7 0)]:List Int) s20.2) fun x30=>bi (getZ ([cpA (wi (8 - (r.length:Int))).toNat r 0 (cpA (0:Int).toNat l 0 0),cpA (wi (8 - (r.length:Int))).toNat r 1 (cpA (0:Int).toNat l 1 0),cpA (wi (8 - (r.length:Int))).toNat r 2 (cpA (0:Int).toNat l 2 0),cpA (wi (8 - (r.length:Int))).toNat r 3 (cpA (0:Int).toNat l 3 0),cpA (wi (8 - (r.length:Int))).toNat r 4 (cpA (0:Int).toNat l 4 0),cpA (wi (8 - (r.length:Int))).toNat r 5 (cpA (0:Int).toNat l 5 0),cpA (wi (8 - (r.length:Int))).toNat r 6 (cpA (0:Int).toNat l 6 0),cpA (wi (8 - (r.length:Int))).toNat r 7 (cpA (0:Int).toNat l 7 0)]:List Int) (wi (4+s20.2))) fun x32=>some (.go ((⟨s20.1.Six,bitsV .or .u64 (shlV .u64 s20.1.Hi 16) x30,bitsV .or .u64 (shlV .u64 s20.1.Lo 16) x32⟩:Kya),wi (s20.2+1)))) else(some (.out s20.1))) 40000 ((⟨true,0,0⟩:Kya),0)) fun q22=>some (q22,0))
theorem Kpk(l r:List Int)(hr:r.length≤8):mixIn l r=some (mixA l r,0):=by
 unfold mixIn
 have e:wi (8 - (r.length:Int))=((8 - r.length:Nat):Int):=by rw[Kwl (by omega) (by omega)];omega
 rw[e,Int.toNat_natCast,dT (show(0:Int)≤((8 - r.length:Nat):Int) by omega),dT (show((8 - r.length:Nat):Int)≤((8:Nat):Int) by omega)]
 rw[Bool.true_and,gd_true,Koo (mixP _ _ _ _ _ _ _ _)]
 rfl
theorem Kpl(s:Str):Lbj 40000 s=bi (Ktx s [58]) fun y1=>bif !y1 then(bi (Lbh 40000 s) fun y4=>bif !y4.2 then(some ((⟨false,0,0⟩:Kya),9)) else(some ((⟨false,0,y4.1⟩:Kya),0))) else(bi (Ktu s [58,58]) fun y9=>bi (Lbi 40000 y9.1 (!y9.2.2)) fun y11=>bi (Lbi 40000 y9.2.1 true) fun y13=>bif ((((!y11.2)||(!y13.2))||(y9.2.2&&(decide ((wi ((y11.1.length:Int)+(y13.1.length:Int)):Int)>7))))||((!y9.2.2)&&(((y11.1.length:Int):Int) != 8))) then(some ((⟨false,0,0⟩:Kya),9)) else mixIn y11.1 y13.1):=rfl
theorem Kpm(s:Str):Lbt 40000 s=bi (Lbr s) fun y1=>bif y1.2 then(some ((⟨false,0,y1.1⟩:Kya),0)) else(bi (Ktu s [58,58]) fun y5=>bi (Lbs y5.1 (!y5.2.2)) fun y7=>bi (Lbs y5.2.1 true) fun y9=>bif ((((!y7.2)||(!y9.2))||(y5.2.2&&(decide ((wi ((y7.1.length:Int)+(y9.1.length:Int)):Int)>7))))||((!y5.2.2)&&((((y7.1.length:Int):Int) != 8)||((s:Str)==[])))) then(some ((⟨false,0,0⟩:Kya),9)) else(bi (loopM (σ:=Int×Int×Int) (ρ:=Kya) (fun s14=>bif decide ((s14.2.2:Int)<8) then(bi (lE1 y7.1 s14.2.2) fun q24=>bi (lE2 y5.2.2 y9.1 s14.2.2 q24) fun q30=>bif decide ((s14.2.2:Int)<4) then(some (.go (bitsV .or .u64 (shlV .u64 s14.1 16) q30,s14.2.1,wi (s14.2.2+1)))) else(some (.go (s14.1,bitsV .or .u64 (shlV .u64 s14.2.1 16) q30,wi (s14.2.2+1))))) else(some (.out (⟨true,s14.1,s14.2.1⟩:Kya)))) 40000 (0,0,0)) fun q16=>some (q16,0))):=rfl
theorem Kpn:∀ {s:Str},s.contains 58=false→Lib.index s [58,58]=-1
 | [],_=>rfl
 | b :: s,h=>by
  rw[List.contains_cons,Bool.or_eq_false_iff] at h
  have ih:=Kpn h.2
  have hp:List.isPrefixOf [58,58] (b :: s)=false:=by
   simp only[List.isPrefixOf,h.1,Bool.false_and]
  simp only[Lib.index,hp,ih]
  rfl
theorem Kpo:AOk (⟨false,0,0⟩:Kya):=⟨by decide,by decide,by decide,by decide⟩
theorem Kpp{s:Str}(h:s.length≤100000):∃ b a f,Ktu s [58,58]=some (b,a,f)∧b.length≤s.length∧a.length≤s.length∧(f=false→a=[]∧b=s)∧(s.contains 58=false→f=false):=by
 refine⟨(Lib.cut s [58,58]).1,(Lib.cut s [58,58]).2.1,(Lib.cut s [58,58]).2.2,?_,?_⟩
 ·unfold Ktu
  show gd (Nat.blt s.length 4294967281) (some (Lib.cut s [58,58]))=_
  rw[show Nat.blt s.length 4294967281=true from by rw[Nat.blt_eq];omega]
  rfl
 unfold Lib.cut
 by_cases hi:0≤Lib.index s [58,58]
 ·rw[if_pos hi]
  refine⟨?_,?_,(fun (h:true=false)=>nomatch h),fun h=>?_⟩
  ·show(List.take _ s).length≤s.length
   simp;omega
  ·show(List.drop _ s).length≤s.length
   simp
  rw[Kpn h] at hi
  exact absurd hi (by decide)
 rw[if_neg hi]
 exact⟨Nat.le_refl _,by simp,fun _=>⟨rfl,rfl⟩,fun _=>rfl⟩
theorem Kpq{s:Str}(hs:s.length≤100000)(hc:s.contains 58=false):∃ q,Lbs s true=some q∧q.1.length≤2:=by
 rw[Knl]
 cases h:(s==[]) with
 | true=>exact⟨([],true),rfl,by simp⟩
 | false=>
  have hn:∀ b∈s,b≠58:=fun b hb he=>by
   subst he
   rw[List.contains_iff_mem.2 hb] at hc
   cases hc
  rw[cond_false,Koo (Kqw 58 (by omega)),Kqm hn]
  obtain⟨p,q,h1,h2,h3,h4,h5,h6⟩:=Knj 1 true (by decide) [s] 0 [] rfl (by simp) fun x hx=>by rw[List.mem_singleton.1 hx];exact hs
  exact⟨finG q,(Koo h2).trans (Knm q),h6⟩
theorem Kpr(s:Str)(hs:s.length≤100000):∃ a e,Lbj 40000 s=some (a,e)∧Lbt 40000 s=some (a,e)∧AOk a:=by
 obtain⟨v,f1,f2,f3,f4⟩:=Kmz s hs
 rw[Kpl,Kpm,Koo (Kqv 58 (by omega)),Koo f2]
 cases hf:fourB s with
 | true=>
  rw[hf] at f1
  rw[Knb hf]
  simp only[Bool.not_false,cond_true]
  rw[Koo f1]
  exact⟨_,_,rfl,rfl,⟨Int.le_refl 0,(by decide:(0:Int)<18446744073709551616),f3,(by omega:v<18446744073709551616)⟩⟩
 | false=>
  rw[hf] at f1
  simp only[cond_false]
  obtain⟨b,a,f,c1,c2,c3,c4,c5⟩:=Kpp hs
  cases hc:s.contains 58 with
  | false=>
   simp only[Bool.not_false,cond_true]
   rw[Koo f1,Koo c1]
   obtain rfl:=c5 hc
   obtain⟨rfl,rfl⟩:=c4 rfl
   obtain⟨q,q1,q2⟩:=Kpq hs hc
   simp only[Bool.not_false,cond_true]
   rw[Koo q1,Koo (show Lbs [] true=some ([],true) from rfl)]
   have h8:((((q.1.length:Nat):Int) != 8):Bool)=true:=by rw[bne_iff_ne];omega
   rw[h8]
   simp only[Bool.not_false,Bool.true_or,Bool.and_true,Bool.or_true,cond_true]
   exact⟨_,_,rfl,rfl,Kpo⟩
  | true=>
   simp only[Bool.not_true,cond_false]
   rw[Koo c1,Koo c1]
   obtain⟨p1,q1,g1,g2,g3,g4,g5,g6,g7⟩:=Knn b (!f) (by omega)
   obtain⟨p2,q2,r1,r2,r3,r4,r5,r6,r7⟩:=Knn a true (by omega)
   rw[Koo g1,Koo g2,Koo r1,Koo r2]
   have hne:(s==[])=false:=by
    rw[Knd]
    exact dF fun h=>by rw[List.eq_nil_of_length_eq_zero h] at hc;cases hc
   rw[←g3,←r3,hne,Bool.or_false]
   cases h1:p1.2 with
   | false=>exact⟨_,_,rfl,rfl,Kpo⟩
   | true=>
    cases h2:p2.2 with
    | false=>exact⟨_,_,rfl,rfl,Kpo⟩
    | true=>
     rw[←g4 h1,←r4 h2]
     simp only[Bool.not_true,Bool.or_false,Bool.false_or]
     rw[Kwl (by omega) (by omega)]
     cases f with
     | false=>
      obtain⟨rfl,rfl⟩:=c4 rfl
      have hp2:=(r7 rfl).1
      by_cases h8:p1.1.length=8
      ·have e8:((((p1.1.length:Nat):Int) != 8):Bool)=false:=by rw[h8];rfl
       rw[e8]
       simp only[Bool.false_and,Bool.and_false,Bool.or_false,cond_false]
       have hr:p2.1=[]:=by rw[hp2]
       rw[Kpk _ _ (by rw[hr];decide),Koo (Kpj false p1.1 p2.1 (by omega) (by rw[hr];decide) fun _=>hr)]
       exact⟨_,_,rfl,rfl,Kpi _ _⟩
      have e8:((((p1.1.length:Nat):Int) != 8):Bool)=true:=by rw[bne_iff_ne];omega
      rw[e8]
      exact⟨_,_,rfl,rfl,Kpo⟩
     | true=>
      by_cases h7:p1.1.length+p2.1.length≤7
      ·rw[dF (show ¬ ((p1.1.length:Int)+(p2.1.length:Int)>7) by omega)]
       simp only[Bool.not_true,Bool.false_and,Bool.and_false,Bool.or_false,cond_false]
       rw[Kpk _ _ (by omega),Koo (Kpj true p1.1 p2.1 (by omega) (by omega) fun h=>by cases h)]
       exact⟨_,_,rfl,rfl,Kpi _ _⟩
      rw[dT (show((p1.1.length:Int)+(p2.1.length:Int)>7) by omega)]
      exact⟨_,_,rfl,rfl,Kpo⟩
theorem Kps(s:Str)(hs:s.length≤100000):∃ a e,Lbk 40000 s=some (a,e)∧Lbu 40000 s=some (a,e)∧AOk a∧(e=0→addrT a=s):=by
 obtain⟨a,e,h1,h2,h3⟩:=Kpr s hs
 unfold Lbk Lbu
 rw[Koo h1,Koo h2]
 simp only[]
 cases he:(e != 0) with
 | true=>exact⟨_,_,rfl,rfl,Kpo,fun h=>by cases h⟩
 | false=>
  rw[cond_false,cond_false,Koo (Kpa h3),Koo (Kou h3)]
  cases ht:(addrT a==s) with
  | true=>exact⟨a,0,rfl,rfl,h3,fun _=>beq_iff_eq.1 ht⟩
  | false=>exact⟨_,_,rfl,rfl,Kpo,fun h=>by cases h⟩
end Go.Gk
