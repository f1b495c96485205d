import Derived.Test.YthhdojhbohfmnaaGreatDoorJDraw
set_option linter.all false
set_option maxRecDepth 100000
namespace Go.Gk
theorem Ksf(k:Nat)(hk:80000<k):Lcr k=some true:=by
 obtain⟨k,rfl⟩:∃ m,k=m+20:=⟨k - 20,by omega⟩
 rfl
theorem Ksg{l:List Int}{b:Int}{s:Kyc}(h:At l 0 b s)(many:Int)(h0:0≤many)(hm:many≤4)(hl:l.length≤9223372036854775807)(h1:b<2000000000000000000) :
  Ok (Kzb s many) fun r=>Cls (6 * many.toNat+1) r.1∧At l 0 (b+5000) r.2:=by
 have:=Kvh h many.toNat (by omega) hl h1
 rw[Int.toNat_of_nonneg h0] at this
 exact this
theorem Ksh{n:Int}(h:freE n=0):1≤n∧n≤345686400:=by
 unfold freE at h
 split at h
 ·assumption
 cases h
theorem Ksi{n:Int}(h:momE n=0):0≤n∧n<345686400:=by
 unfold momE at h
 cases hm:momB n with
 | false=>rw[hm] at h;cases h
 | true=>unfold momB at hm;simpa using hm
theorem Ksj{k:Nat}(hk:90000<k)(P:List PC)(hP:P.length≤3)(hPs:∀ x∈P,PcS k x)(L:List Kyh)(hL:Cls 30 L)(fresh:Int)(nodes:List Str)(hn:nodes.length≤3)(hns:∀ x∈nodes,x.length≤1000)(z:Int)(al:List Bool) :
  ∃ al',(bi (Law k (P.map PC.t) L fresh nodes z al) fun y13=>bi (Lbb k (P.map PC.t) L fresh nodes z y13.2.2) fun y15=>bi (Lbq k (P.map PC.t)) fun y17=>bi (Kzw k (P.map PC.t)) fun y19=>bif (y19:Int) != y17 then(some (false,y15.2.2.2)) else(bi (Lbt k L) fun y23=>bi (Lbu fresh) fun y25=>bi (Lbw nodes) fun y27=>bi (Lbx z) fun y29=>bi (Lby [y17,y23,y25,y27,y29]) fun y31=>bif (y31:Int) != 0 then(bi (bif (((((y13.2.1:Int)==y31)&&((y15.2.2.1:Int)==y31))&&(((y13.1.length:Int):Int)==0))&&(!y15.2.1)) then(bi (Lcr k) fun y37=>some y37) else(some false)) fun q34=>some (q34,y15.2.2.2)) else(bi (Lde k (P.map PC.t) L fresh nodes z) fun y41=>bi (bif (((y13.2.1:Int)==0)&&((y15.2.2.1:Int)==0)) then(bi (Ldc k (P.map PC.t) L fresh nodes z) fun y46=>bi (Ldd y13.1 y46) fun y48=>some y48) else(some false)) fun q43=>bi (bif ((q43&&((y15.1:Int)==y41.1))&&((y15.2.1:Bool)==y41.2)) then(bi (Lcr k) fun y54=>some y54) else(some false)) fun q51=>some (q51,y15.2.2.2))))=some (true,al'):=by
 have hL1:=hL.1
 obtain⟨eP,p1,p2,p3⟩:=Krk k (by omega) P (by omega) hPs
 obtain⟨e0,c1,c2,c3⟩:=Kuy k (by omega) L (by omega) hL.2
 obtain⟨eN,n1,n2,n3⟩:=Kri k (by omega) nodes (by omega) hns
 have hF:=Krl (k:=k) (by omega) (fresh:=fresh) (z:=z) p1 c1 (by omega) n1
 have hNK:Lbw nodes=some eN:=by
  unfold Lbw
  rw[dF (show ¬ (((nodes.length:Int):Int)>500) by omega),cond_false,n2,bi_some]
 have hor:=ors5 eP e0 (freE fresh) eN (momE z)
 have hpost:=Ksf k (by omega)
 by_cases he:(if eP≠0 then eP else if e0≠0 then e0 else if freE fresh≠0 then freE fresh else if eN≠0 then eN else momE z)=0
 ·have hz:eP=0∧e0=0∧freE fresh=0∧eN=0∧momE z=0:=by
   by_cases g0:eP=0
   ·by_cases g1:e0=0
    ·by_cases g2:freE fresh=0
     ·by_cases g3:eN=0
      ·simp[g0,g1,g2,g3] at he;exact⟨g0,g1,g2,g3,he⟩
      ·simp[g0,g1,g2,g3] at he
     ·simp[g0,g1,g2] at he
    ·simp[g0,g1] at he
   ·simp[g0] at he
  obtain⟨z0,z1,z2,z3,z4⟩:=hz
  have hPC:=p3 z0
  have hat:=Ktg (c3 z1).2
  have hfr:=Ksh z2
  have hmo:=Ksi z4
  rw[he] at hF hor
  obtain⟨m,al1,r1,r2⟩:=Kwb L (by omega) fresh al
  obtain⟨m',al2,r3,r4⟩:=Kwb L (by omega) fresh al1
  have hfl:=Ktn L fresh P z nodes
  have hfl2:nodes.length * P.length≤3 * 3:=Nat.mul_le_mul hn hP
  have hFacts:Law k (P.map PC.t) L fresh nodes z al=some (factL L fresh P nodes z,0,al1):=by
   unfold Law
   rw[hF,bi_some,bne_self_eq_false,cond_false,r1,bi_some,Ktr r2 (by omega) fresh hPC nodes (by omega) z,bi_some,dF (show ¬ ((((factL L fresh P nodes z).length:Int):Int)>2000) by omega),cond_false]
  obtain⟨s,s1,s2⟩:=Ksq r4 (by omega) fresh (by omega) hfr hat hPC nodes z hmo.1
  have hNext:Lbb k (P.map PC.t) L fresh nodes z al1=some (if s.2 then s.1 else 0,s.2,0,al2):=by
   unfold Lbb
   rw[hF,bi_some,bne_self_eq_false,cond_false,r3,bi_some,s1,bi_some]
   cases s.2<;>rfl
  have hR:=Kss r4 (by omega) fresh (by omega) hfr hat hPC (n3 z3) (by omega) z hmo.1 s2
  have hFA:=Ktq r4 (by omega) fresh hPC nodes (by omega) z
  refine⟨al2,?_⟩
  rw[hFacts,bi_some,hNext,bi_some,p2,bi_some,p1,bi_some,bne_self_eq_false,cond_false,c2,bi_some,(Kus fresh).2,bi_some,hNK,bi_some,(Kut z).2,bi_some,hor,bi_some,bne_self_eq_false,cond_false,hR,bi_some]
  simp only[beq_self_eq_true,Bool.and_self,cond_true]
  rw[hFA,bi_some,Lig,bi_some,bi_some,dT rfl]
  simp only[beq_self_eq_true,Bool.and_self,Bool.true_and,cond_true]
  rw[hpost,bi_some,bi_some]
 ·have hb:((if eP≠0 then eP else if e0≠0 then e0 else if freE fresh≠0 then freE fresh else if eN≠0 then eN else momE z) != 0)=true:=by simpa only[bne_iff_ne,ne_eq] using he
  generalize hE:(if eP≠0 then eP else if e0≠0 then e0 else if freE fresh≠0 then freE fresh else if eN≠0 then eN else momE z)=E at hF hor hb he
  have hFacts:Law k (P.map PC.t) L fresh nodes z al=some ([],E,al):=by
   unfold Law
   rw[hF,bi_some,hb,cond_true]
  have hNext:Lbb k (P.map PC.t) L fresh nodes z al=some (0,false,E,al):=by
   unfold Lbb
   rw[hF,bi_some,hb,cond_true]
  refine⟨al,?_⟩
  rw[hFacts,bi_some,hNext,bi_some,p2,bi_some,p1,bi_some,bne_self_eq_false,cond_false,c2,bi_some,(Kus fresh).2,bi_some,hNK,bi_some,(Kut z).2,bi_some,hor,bi_some]
  simp only[]
  rw[hb,cond_true]
  simp only[beq_self_eq_true,Bool.and_self,List.length_nil,Bool.not_false]
  rw[hpost,bi_some]
  rfl
theorem PosturesHold_true(l:List Int)(hl:l.length≤9223372036854775807)(al:List Bool):∃ al',Ldf 200000 l al=some (true,al'):=by
 suffices h:Ok (Ldf 200000 l al) fun r=>r.1=true by
  obtain⟨⟨b,al'⟩,h1,h2⟩:=h
  simp only at h2
  subst h2
  exact⟨al',h1⟩
 unfold Ldf
 have t0:At l 0 0 (⟨l,0⟩:Kyc):=⟨rfl,Int.le_refl _,Int.le_refl _⟩
 refine Kcq (Krb hl t0 (by omega) (by omega) (by omega)) fun y1 ⟨P,p1,p2,p3,t1⟩=>?_
 refine Kcq (Kdc t1 0 4 hl (by omega) (by omega) (by omega) (by omega) (by omega)) fun y3 ⟨r0,r4,t3⟩=>?_
 refine Kcq (Ksg (t3.up (by omega) (Int.le_refl _)) y3.1 r0 r4 hl (by omega)) fun y5 ⟨c5,t5⟩=>?_
 refine Kcq (Kvi t5 hl (by omega)) fun y7 t7=>?_
 refine Kcq (Krc hl t7 (by omega) (by omega)) fun y9 ⟨n1,n2,t9⟩=>?_
 refine Kcq (Kvj t9 hl (by omega)) fun y11 t11=>?_
 rw[p1]
 obtain⟨al',h⟩:=Ksj (k:=200000) (by omega) P p2 p3 y5.1 (c5.up (by omega)) y7.1 y9.1 n1 n2 y11.1 al
 exact⟨_,h,rfl⟩
end Go.Gk
