import Derived.Test.YthhdojhbohfmnaaGreatDoorYBoth
set_option linter.all false
set_option maxRecDepth 100000
namespace Go.Gk
theorem Lio(k:Nat)(hk:80000<k):Laq k=some true:=by
 obtain⟨k,rfl⟩:∃ m,k=m+20:=⟨k - 20,by omega⟩
 rfl
theorem or2E(x y:Int):Kyv [x,y]=some (if x≠0 then x else y):=or2 x y
theorem Llh(a b:List Kwh):Kzb a b=some (decide (a=b)):=by
 unfold Kzb
 refine Ljd (a:=a) (b:=b) fun i x y hy=>?_
 rw[Kvu hy,bi_some]
 by_cases e:x=y
 ·subst e;rw[if_pos rfl];simp
 rw[if_neg e,show(((x.Step:Int)==y.Step)&&(((x.Why:Int)==y.Why)&&true))=false by
  rw[←Bool.not_eq_true]
  intro h
  simp only[Bool.and_true,Bool.and_eq_true,beq_iff_eq] at h
  exact e (by cases x;cases y;simp_all)]
 rfl
theorem Lli(a:List Kwk):Kzi a a=some true:=by
 unfold Kzi
 rw[show(((a.length:Int):Int) != (a.length:Int))=false by simp,cond_false]
 rw[Kvb (fun _=>true) true a 0 (fun j x hx=>by
  simp only[Nat.zero_add]
  rw[Kvu hx,bi_some]
  simp)]
 rw[show(a.all fun _=>true)=true by simp,if_pos rfl]
 rfl
theorem Llj{k:Nat}{R:List Kwf}{L:List Kwg}{e f:Int}(h1:Kxg k R=some e)(h2:Kxn k L=some f):Kxo k R L=some (if e≠0 then e else f):=by
 unfold Kxo
 rw[h1,bi_some]
 by_cases he:e=0
 ·rw[show((e:Int) != 0)=false by simpa using he,cond_false,h2,bi_some,if_neg (by simpa using he)]
 rw[show((e:Int) != 0)=true by simpa using he,cond_true,if_pos he]
theorem Lip{l:List Int}(hl:l.length≤9223372036854775807){b:Int}{s:Kwe}(h:At l 0 b s)(h0:0≤b)(h1:b<100000000000000000){k:Nat}(hk:80000<k)(al:BagT) :
  Ok (bi (Kzj s) fun y78=>bi (Kzj y78.2) fun y80=>bi (Kzk k y78.1 y80.1) fun y82=>bi (Kzl y78.1) fun y84=>bi (Kzl y80.1) fun y86=>bi (Kyv [y84,y86]) fun y88=>bif (y88:Int) != 0 then(bi (bif (((y82.2:Int)==y88)&&(((y82.1.length:Int):Int)==0)) then(bi (Laq k) fun y94=>some y94) else(some false)) fun q91=>some (q91,al)) else(bi (Lau k y78.1 y80.1) fun y98=>bi (bif (y82.2:Int)==y98.2 then(bi (Kyk y82.1 y98.1) fun y103=>some y103) else(some false)) fun q100=>bi (bif q100 then(bi (Laq k) fun y109=>some y109) else(some false)) fun q106=>some (q106,al))) fun r=>r.1=true:=by
 refine Kbx (Lgz hl h h0 (by omega)) fun y78 ⟨dA,tA⟩=>?_
 refine Kbx (Lgz hl tA (by omega) (by omega)) fun y80 ⟨dB,tB⟩=>?_
 refine Kby (Lfu (by omega) dA dB) ?_
 refine Kby (facR dA) (Kby (facR dB) (Kby (or2E _ _) ?_))
 by_cases ea:lsE y78.1=0
 ·by_cases eb:lsE y80.1=0
  ·have e1:(if lsE y78.1≠0 then lsE y78.1 else lsE y80.1)=0:=by rw[if_neg (by simpa using ea)];exact eb
   rw[e1,if_neg (by simpa using ea),if_neg (by simpa using eb)]
   simp only[bne_self_eq_false,cond_false]
   refine Kby (Lfw (by omega) dA dB ea eb) ?_
   simp only[beq_self_eq_true,cond_true]
   rw[Llk,dT rfl]
   simp only[bi_some,cond_true]
   rw[Lio k hk]
   exact Kbw rfl
  ·have e1:(if lsE y78.1≠0 then lsE y78.1 else lsE y80.1)=lsE y80.1:=by rw[if_neg (by simpa using ea)]
   rw[e1,if_neg (by simpa using ea),if_pos (by simpa using eb)]
   rw[show((lsE y80.1:Int) != 0)=true by simpa using eb]
   simp only[cond_true,beq_self_eq_true,Bool.true_and,List.length_nil]
   rw[show(((0:Nat):Int)==0)=true from rfl,cond_true,Lio k hk]
   exact Kbw rfl
 ·have e1:(if lsE y78.1≠0 then lsE y78.1 else lsE y80.1)=lsE y78.1:=by rw[if_pos (by simpa using ea)]
  rw[e1,if_pos (by simpa using ea)]
  rw[show((lsE y78.1:Int) != 0)=true by simpa using ea]
  simp only[cond_true,beq_self_eq_true,Bool.true_and,List.length_nil]
  rw[show(((0:Nat):Int)==0)=true from rfl,cond_true,Lio k hk]
  exact Kbw rfl
theorem Liq{A T:Type}{q:Option (A ⊕ T)}{f:A→Option T}{Q:T→Prop}{a:A}(h:q=some (.inl a))(k:Ok (f a) Q):Ok (bi q fun q=>orI q f) Q:=by rw[h];exact k
theorem AccessGiven_ok(l:List Int)(hl:l.length≤9223372036854775807)(k:Nat)(hk:900000≤k):Ok (Lav k l ([],[],[])) fun r=>r.1=true:=by
 unfold Lav
 have hS:At l 0 0 (⟨l,0⟩:Kwe):=⟨rfl,Int.le_refl _,Int.le_refl _⟩
 refine Kbx (Lgx hl hS (by omega) (by omega)) fun y1 ⟨dR,t1⟩=>?_
 refine Kbx (Lgu t1 0 14 hl (by omega) (by omega) (by omega) (by omega)) fun y3 ⟨m0,m1,t3⟩=>?_
 refine Kbx (Lgy hl t3 (by omega) (by omega) m0 m1) fun y5 ⟨dL,t5⟩=>?_
 refine Kbx (Lgt t5 hl (by omega)) fun y7 t7=>?_
 obtain⟨R,s1⟩:=y1
 obtain⟨L,s5⟩:=y5
 obtain⟨t,s7⟩:=y7
 simp only at dR dL t7 ⊢
 obtain⟨eR,r1,r2⟩:=Lhz (k:=k) (by omega) dR
 obtain⟨eL,l1,l2,l3⟩:=Lie (k:=k) (by omega) dL
 have hF0:FrB (([],[],[]):BagT):=⟨(fun e he=>by cases he),(fun e he=>by cases he)⟩
 have hA:=Llj r1 l1
 have hks:∀ a∈L,a.Key.length≤1000000:=fun a ha=>by have:=(dL.2 a ha).1;omega
 have hLl:=dL.1
 have hend:∀ al:BagT,Ok (bi (Kzj s7) fun y78=>bi (Kzj y78.2) fun y80=>bi (Kzk k y78.1 y80.1) fun y82=>bi (Kzl y78.1) fun y84=>bi (Kzl y80.1) fun y86=>bi (Kyv [y84,y86]) fun y88=>bif (y88:Int) != 0 then(bi (bif (((y82.2:Int)==y88)&&(((y82.1.length:Int):Int)==0)) then(bi (Laq k) fun y94=>some y94) else(some false)) fun q91=>some (q91,al)) else(bi (Lau k y78.1 y80.1) fun y98=>bi (bif (y82.2:Int)==y98.2 then(bi (Kyk y82.1 y98.1) fun y103=>some y103) else(some false)) fun q100=>bi (bif q100 then(bi (Laq k) fun y109=>some y109) else(some false)) fun q106=>some (q106,al))) fun r=>r.1=true:=fun al=>Lip hl t7 (by omega) (by omega) (by omega) al
 have hmo:=Lho t
 by_cases hE:(if eR≠0 then eR else eL)=0
 ·have e1:eR=0:=Classical.byContradiction fun h=>by rw[if_pos h] at hE;exact h hE
  rw[e1,if_neg (by simp)] at hE
  subst e1
  subst hE
  obtain⟨hKd,hRi,hAt⟩:=l3 rfl
  rw[show(if (0:Int)≠0 then(0:Int) else 0)=0 by simp] at hA
  obtain⟨al1,f1,f2⟩:=Lkv (R:=R) (l:=L) (by omega) hF0 hA
  refine Kby f1 ?_
  by_cases hM:momE t=0
  ·
   have ht:=Lhp hM
   have hmo1:=hmo.1
   have hmo2:=hmo.2
   rw[hM] at hmo1 hmo2
   obtain⟨al2,g1,g2⟩:=Lkk (R:=R) (l:=L) (by omega) hks (t:=t) f2 hA hmo1
   refine Kby g1 ?_
   obtain⟨al3,i1,i2⟩:=Lii (R:=R) (l:=L) (by omega) (t:=t) g2 (k:=k) (by omega) hA hmo1
   refine Kby i1 ?_
   obtain⟨N1,al4,n1,n2,n3,n4⟩:=Lji (R:=R) (l:=L) (by omega) hRi (fun a h=>(hAt a h).2) ht i2 (k:=k) (by omega) hA hmo1
   refine Kby n1 ?_
   refine Kby r1 (Kby r2 ?_)
   simp only[bne_self_eq_false,cond_false]
   rw[l1,l2]
   simp only[bi_some,bne_self_eq_false,cond_false]
   rw[r2]
   simp only[bi_some]
   rw[or2E]
   simp only[bi_some,ne_eq,not_true_eq_false,if_false]
   rw[hmo2]
   simp only[bi_some]
   rw[or2E]
   simp only[bi_some,ne_eq,not_true_eq_false,if_false,bne_self_eq_false,Bool.or_self,cond_false,beq_self_eq_true,cond_true]
   obtain⟨al5,j1,j2⟩:=Lkw (R:=R) (l:=L) (by omega) hKd hRi (fun a h=>(hAt a h).2) n2
   rw[j1]
   simp only[bi_some]
   rw[Llh,dT rfl]
   simp only[bi_some,Bool.not_true,cond_false]
   obtain⟨N2,al6,q1,q2,q3,q4⟩:=Ljk (R:=R) (l:=L) (by omega) hKd hRi hAt ht j2 (k:=k) (by omega)
   rw[q1]
   simp only[bi_some]
   obtain⟨al7,u1,u2⟩:=Lkm (R:=R) (l:=L) (by omega) hKd hRi t q2
   rw[u1]
   simp only[bi_some]
   rw[Lli]
   simp only[bi_some,Bool.not_true,cond_false]
   obtain⟨al8,v1,v2⟩:=Lin (R:=R) (l:=L) (by omega) hKd hRi t u2 (k:=k) (by omega)
   rw[v1]
   simp only[bi_some]
   rw[Llk,dT rfl]
   simp only[bi_some,Bool.not_true,Bool.false_or]
   rw[Lhl n3 q3 n4 q4]
   simp only[bne_self_eq_false,beq_self_eq_true,Bool.not_true,Bool.or_self,cond_false,bi_some,orI_inl]
   exact hend al8
  
  have hmo1:=hmo.1
  have hmo2:=hmo.2
  have hb:((momE t:Int) != 0)=true:=by simpa using hM
  have g1:Kyc k R L t al1=some ([],momE t,al1):=by
   unfold Kyc
   rw[hA];simp only[bi_some,bne_self_eq_false,cond_false];rw[hmo1];simp only[bi_some,hb,cond_true]
  have i1:Kyi k R L t al1=some ([],momE t,al1):=by
   unfold Kyi
   rw[hA];simp only[bi_some,bne_self_eq_false,cond_false];rw[hmo1];simp only[bi_some,hb,cond_true]
  have n1:Kyl k R L t al1=some (0,false,momE t,al1):=by
   unfold Kyl
   rw[hA];simp only[bi_some,bne_self_eq_false,cond_false];rw[hmo1];simp only[bi_some,hb,cond_true]
  refine Kby g1 (Kby i1 (Kby n1 (Kby r1 (Kby r2 ?_))))
  simp only[bne_self_eq_false,cond_false]
  rw[l1,l2]
  simp only[bi_some,bne_self_eq_false,cond_false]
  rw[r2]
  simp only[bi_some]
  rw[or2E]
  simp only[bi_some,ne_eq,not_true_eq_false,if_false]
  rw[hmo2]
  simp only[bi_some]
  rw[or2E]
  simp only[bi_some,ne_eq,not_true_eq_false,if_false,bne_self_eq_false,Bool.or_self,cond_false,beq_self_eq_true,cond_true]
  obtain⟨al5,j1,j2⟩:=Lkw (R:=R) (l:=L) (by omega) hKd hRi (fun a h=>(hAt a h).2) f2
  rw[j1]
  simp only[bi_some]
  rw[Llh,dT rfl]
  simp only[bi_some,Bool.not_true,cond_false]
  rw[show((momE t:Int)==0)=false by simpa using hM]
  simp only[cond_false,bi_some,orI_inl]
  exact hend al5
 
 have hb:(((if eR≠0 then eR else eL):Int) != 0)=true:=by simpa using hE
 generalize hG:(if eR≠0 then eR else eL)=E at *
 have f1:Kxy k R L ([],[],[])=some ([],E,([],[],[])):=by
  unfold Kxy
  rw[hA];simp only[bi_some,hb,cond_true]
 have g1:Kyc k R L t ([],[],[])=some ([],E,([],[],[])):=by
  unfold Kyc
  rw[hA];simp only[bi_some,hb,cond_true]
 have i1:Kyi k R L t ([],[],[])=some ([],E,([],[],[])):=by
  unfold Kyi
  rw[hA];simp only[bi_some,hb,cond_true]
 have n1:Kyl k R L t ([],[],[])=some (0,false,E,([],[],[])):=by
  unfold Kyl
  rw[hA];simp only[bi_some,hb,cond_true]
 refine Kby f1 (Kby g1 (Kby i1 (Kby n1 (Kby r1 (Kby r2 ?_)))))
 simp only[bne_self_eq_false,cond_false]
 rw[l1,l2]
 simp only[bi_some,bne_self_eq_false,cond_false]
 rw[r2]
 simp only[bi_some]
 rw[or2E,hG]
 simp only[bi_some]
 rw[hmo.2]
 simp only[bi_some]
 rw[or2E,if_pos hE]
 simp only[bi_some,bne_self_eq_false,Bool.or_self,cond_false]
 rw[show((E:Int)==0)=false by simpa using hE]
 simp only[cond_false,bi_some,orI_inl]
 exact hend _
theorem AccessGiven_true(l:List Int)(hl:l.length≤9223372036854775807):∃ al',Lav 1000000 l ([],[],[])=some (true,al'):=by
 obtain⟨r,h1,h2⟩:=AccessGiven_ok l hl 1000000 (by decide)
 exact⟨r.2,by rw[h1,←h2]⟩
end Go.Gk
