import Derived.Test.YthhdojhbohfmnaaGreatDoorJMeas
import Derived.Test.YthhdojhbohfmnaaGreatDoorJSh
import Derived.Test.YthhdojhbohfmnaaGreatDoorJDraw
set_option linter.all false
set_option maxRecDepth 100000
namespace Go.Gk
theorem Ktw(k:Nat)(hk:80000<k):Lhr k=some true:=by
 obtain⟨k,rfl⟩:∃ m,k=m+20:=⟨k - 20,by omega⟩
 rfl
theorem Ktx{l:List Int}{b:Int}{s:Lcu}(h:At l 0 b s)(many:Int)(h0:0≤many)(hm:many≤4)(hl:l.length≤9223372036854775807)(h1:b<2000000000000000000) :
  Ok (Ldr s many) fun r=>Cls (6 * many.toNat+1) r.1∧At l 0 (b+5000) r.2:=by
 have:=Kzc h many.toNat (by omega) hl h1
 rw[Int.toNat_of_nonneg h0] at this
 exact this
theorem Kty{n:Int}(h:freE n=0):1≤n∧n≤345686400:=by
 unfold freE at h
 split at h
 ·assumption
 cases h
theorem Ktz{l:List Int}{b:Int}{s:Lcu}(h:At l 0 b s)(hl:l.length≤9223372036854775807)(h1:b<1000000000000000000) :
  Ok (Ldu s) fun r=>At l 0 (b+20) r.2:=by
 unfold Ldu
 refine Kdo (Kyx h _ hl (by omega) (by simp) (by simp)) fun y1 ⟨_,t1⟩=>?_
 refine Kdo (Kyx t1 _ hl (by omega) (by simp) (by simp)) fun y3 ⟨_,t3⟩=>?_
 refine Kdo (Kyw t3 20 hl (by omega) (by omega) (by omega)) fun y5 t5=>?_
 refine Kdo (P:=fun q=>At l 0 (b+20) q.1) ?_ fun q hq=>Kdn hq
 refine Kdr (fun _=>?_) (fun _=>Kdn (t5.up (by omega) (by omega)))
 refine Kdo (Kyx t5 _ hl (by omega) (by simp) (by simp)) fun y10 ⟨_,t10⟩=>?_
 exact Kdo (Kyx t10 _ hl (by omega) (by simp) (by simp)) fun y12 ⟨_,t12⟩=>Kdn (t12.up (by omega) (by omega))
theorem ors4(a b c d:Int):Lgh [a,b,c,d]=some (if a≠0 then a else if b≠0 then b else if c≠0 then c else d):=by
 rw[Lae]
 by_cases ha:a=0<;>by_cases hb:b=0<;>by_cases hc:c=0<;>by_cases hd:d=0<;>simp[ha,hb,hc,hd]
theorem Lmr(a b:List Int):Lgw a b=some (decide (a=b)):=by
 unfold Lgw
 refine Kxr (a:=a) (b:=b) fun i x y hy=>?_
 rw[Lcb hy,bi_some]
 by_cases e:x=y
 ·subst e;rw[if_pos rfl];simp
 rw[if_neg e,show((x:Int) != y)=true by simpa using e];rfl
theorem Kua(k:Nat)(hk:2000<k)(a:Str)(ha:a.length≤1000):Leu k [a]=some (!keyB a):=by
 unfold Leu Let Les
 simp only[rangeM]
 rw[keyP k a (by omega) (by omega)]
 cases keyB a<;>rfl
def winE(w:Lcz):Int:=if 0≤w.From∧w.From≤w.To∧w.To≤345686400 then 0 else 1
theorem Kub(w:Lcz):Lgj w=some (winE w)∧(∃ y9,Ldw w.From 0 w.To=some y9∧(y9||(decide ((w.To:Int)>345686400)))=decide (winE w≠0)):=by
 unfold Lgj Ldw winE
 by_cases h:0≤w.From∧w.From≤w.To∧w.To≤345686400
 ·rw[if_pos h,dF (show ¬ w.From<0 by omega),dF (show ¬ w.From>w.To by omega),dF (show ¬ w.To>345686400 by omega)]
  exact⟨rfl,_,rfl,rfl⟩
 rw[if_neg h]
 have hb:(((decide ((w.From:Int)<0))||(decide ((w.From:Int)>w.To)))||(decide ((w.To:Int)>345686400)))=true:=by
  rw[Bool.or_eq_true,Bool.or_eq_true,decide_eq_true_eq,decide_eq_true_eq,decide_eq_true_eq]
  omega
 refine⟨by rw[hb];rfl,_,rfl,?_⟩
 rw[hb];rfl
section
variable{k:Nat}(hk:90000<k){c:CC}(hg:c.Gd)(hdp:c.dp≤40)(htw:c.lf.length≤20000){L:List Lcy}(hL:Cls 30 L)(fresh:Int)(node:Str)(hnode:node.length≤1000)
include hk hg hdp htw hL hnode
theorem Kuc(z:Int)(w:Lcz)(al:List Bool) :
  ∃ al',(bi (Lfh k c.t L fresh node z al) fun y15=>bi (Lfi k c.t L fresh node z y15.2.2) fun y17=>bi (Lfm k c.t L fresh node w y17.2.2) fun y19=>bi (Lga k c.t) fun y21=>bi (Lgd k L) fun y23=>bi (Lge fresh) fun y25=>bi (Lgg node) fun y27=>bi (Lgh [y21,y23,y25,y27]) fun y29=>bi (Lgi z) fun y31=>bi (Lgh [y29,y31]) fun y33=>bi (Lgj w) fun y35=>bi (Lgh [y29,y35]) fun y37=>bif ((((y15.2.1:Int) != y33)||((y17.2.1:Int) != y33))||((y19.2.1:Int) != y37)) then(some (false,y19.2.2)) else(bi (bif (y33:Int)==0 then(bi (Lgs k c.t L fresh node z) fun y44=>bi (bif (y15.1:Int) != y44 then(some true) else(bi (Lgv k c.t L fresh node z) fun y50=>bi (Lgw y17.1 y50) fun y52=>some (!y52))) fun q46=>some q46) else(some false)) fun q41=>bif q41 then(some (false,y19.2.2)) else(bi (bif (y37:Int) != 0 then(some true) else(bi (Lgy k c.t L fresh node w) fun y61=>some ((y19.1:Int)==y61))) fun q57=>bi (bif q57 then(bi (Lhr k) fun y66=>some y66) else(some false)) fun q63=>some (q63,y19.2.2))))=some (true,al'):=by
 have hL1:=hL.1
 obtain⟨eC,c1,c2⟩:=Kbr k c hg (by omega)
 obtain⟨e0,d1,d2,d3⟩:=Kys k (by omega) L (by omega) hL.2
 have hpost:=Ktw k (by omega)
 obtain⟨w1,y9,w2,w3⟩:=Kub w
 have hcf:Lev k L fresh [node]=some (if e0≠0 then e0 else if freE fresh≠0 then freE fresh else keyE node):=by
  unfold Lev
  rw[d1,bi_some,(Kyk fresh).1,bi_some,Kua k (by omega) node hnode,bi_some]
  by_cases g0:e0=0
  ·rw[g0]
   simp only[bne_self_eq_false,cond_false,ne_eq,not_true,if_false]
   by_cases g1:freE fresh=0
   ·rw[g1]
    unfold keyE
    cases keyB node<;>rfl
   ·rw[show(freE fresh != 0)=true by simpa using g1,if_pos g1];rfl
  ·rw[show(e0 != 0)=true by simpa using g0,cond_true,if_pos g0]
 have hor:=ors4 eC e0 (freE fresh) (keyE node)
 by_cases hE:(if eC≠0 then eC else if e0≠0 then e0 else if freE fresh≠0 then freE fresh else keyE node)=0
 ·have hz:eC=0∧e0=0∧freE fresh=0∧keyE node=0:=by
   by_cases g0:eC=0
   ·by_cases g1:e0=0
    ·by_cases g2:freE fresh=0
     ·simp[g0,g1,g2] at hE;exact⟨g0,g1,g2,hE⟩
     ·simp[g0,g1,g2] at hE
    ·simp[g0,g1] at hE
   ·simp[g0] at hE
  obtain⟨z0,z1,z2,z3⟩:=hz
  have hw:c.WF:=Ktq (k:=k) hg (by omega) (by rw[c1,z0])
  have hat:=Kxm (d3 z1).2
  have hfr:=Kty z2
  have hcf0:Lev k L fresh [node]=some 0:=by rw[hcf,z1,z2,z3];rfl
  rw[z0] at c1 c2
  rw[hE,z0] at hor
  have hJ:∀ al:List Bool,∃ v p al',Lfg k c.t L fresh node z al=some (⟨v,p⟩,momE z,al')∧(momE z=0→Lgs k c.t L fresh node z=some v∧Lgv k c.t L fresh node z=some p):=fun al=>by
   unfold Lfg
   rw[c1,bi_some,bne_self_eq_false,cond_false,hcf0,bi_some,bne_self_eq_false,cond_false,(Kym z).1,bi_some]
   by_cases g:momE z=0
   ·obtain⟨m,al1,r1,r2⟩:=Lab L (by omega) fresh al
    rw[g,bne_self_eq_false,cond_false,r1,bi_some,Kuu r2 (by omega) fresh node z k c hw (by omega) (by omega),bi_some]
    exact⟨_,_,_,rfl,fun _=>⟨Kut r2 (by omega) fresh node z k c hw (by omega) (by omega),Kwl r2 (by omega) fresh node z k c hw (by omega) (by omega)⟩⟩
   ·rw[show(momE z != 0)=true by simpa using g,cond_true]
    exact⟨_,_,_,rfl,fun h=>absurd h g⟩
  have hH:∀ al:List Bool,∃ v al',Lfm k c.t L fresh node w al=some (v,winE w,al')∧(winE w=0→Lgy k c.t L fresh node w=some v):=fun al=>by
   unfold Lfm
   rw[c1,bi_some,bne_self_eq_false,cond_false,hcf0,bi_some,bne_self_eq_false,cond_false,w2,bi_some,w3]
   by_cases g:winE w=0
   ·have hW:0≤w.From∧w.From≤w.To∧w.To≤345686400:=by
     unfold winE at g
     split at g
     ·assumption
     ·cases g
    obtain⟨m,al1,r1,r2⟩:=Lab L (by omega) fresh al
    obtain⟨M,m1,m2,m3,m4⟩:=Kvn hfr hat (by omega) node (k:=k) (by omega)
    obtain⟨t,t1⟩:=Ktu (k:=k) r2 (by omega) fresh (by omega) hfr hat hw (by omega) (by omega) node hW m2 m3
    rw[dF (by simpa using g),cond_false,r1,bi_some,m1,bi_some,Lbe (by simp;omega),bi_some,t1,bi_some,g]
    exact⟨_,_,rfl,fun _=>Ktv (k:=k) r2 (by omega) fresh (by omega) hfr hat hw (by omega) (by omega) node hW⟩
   ·rw[dT (by simpa using g),cond_true]
    have g1:winE w=1:=by
     unfold winE at g ⊢
     split
     ·rename_i h;rw[if_pos h] at g;exact absurd rfl g
     ·rfl
    rw[g1]
    exact⟨_,_,rfl,fun h=>by cases h⟩
  obtain⟨v1,p1,al1,j1,j2⟩:=hJ al
  obtain⟨v2,p2,al2,j3,j4⟩:=hJ al1
  obtain⟨hv,al3,h1,h2⟩:=hH al2
  refine⟨al3,?_⟩
  unfold Lfh Lfi
  rw[j1,bi_some,bi_some]
  simp only[]
  rw[j3,bi_some,bi_some]
  simp only[]
  rw[h1,bi_some,c2,bi_some,d2,bi_some,(Kyk fresh).2,bi_some,Kyl node hnode,bi_some,hor,bi_some,(Kym z).2,bi_some,ors2,bi_some,w1,bi_some,ors2,bi_some]
  simp only[ne_eq,not_true,if_false,bne_self_eq_false,Bool.or_self,cond_false]
  have hq41:(bif (momE z:Int)==0 then(bi (Lgs k c.t L fresh node z) fun y44=>bi (bif (v1:Int) != y44 then(some true) else(bi (Lgv k c.t L fresh node z) fun y50=>bi (Lgw p2 y50) fun y52=>some (!y52))) fun q46=>some q46) else(some false))=some false:=by
   by_cases g:momE z=0
   ·rw[g,beq_self_eq_true,cond_true,(j2 g).1,bi_some,bne_self_eq_false,cond_false,(j4 g).2,bi_some,Lmr,dT rfl,bi_some,bi_some];rfl
   ·rw[show((momE z:Int)==0)=false by simpa using g,cond_false]
  have hq57:(bif (winE w:Int) != 0 then(some true) else(bi (Lgy k c.t L fresh node w) fun y61=>some ((hv:Int)==y61)))=some true:=by
   by_cases g:winE w=0
   ·rw[g,bne_self_eq_false,cond_false,h2 g,bi_some,beq_self_eq_true]
   ·rw[show((winE w:Int) != 0)=true by simpa using g,cond_true]
  rw[hq41,bi_some,cond_false,hq57,bi_some,cond_true,hpost,bi_some,bi_some]
 ·have hJ:Lfg k c.t L fresh node z al=some (⟨0,[]⟩,(if eC≠0 then eC else if e0≠0 then e0 else if freE fresh≠0 then freE fresh else keyE node),al):=by
   unfold Lfg
   rw[c1,bi_some,hcf,bi_some]
   by_cases g0:eC=0
   ·rw[g0] at hE ⊢
    simp only[ne_eq,not_true,if_false] at hE ⊢
    rw[bne_self_eq_false,cond_false]
    rw[show((if ¬ e0=0 then e0 else if ¬ freE fresh=0 then freE fresh else keyE node) != 0)=true by simpa only[bne_iff_ne,ne_eq] using hE,cond_true]
   ·rw[show(eC != 0)=true by simpa using g0,cond_true,if_pos g0]
  have hH:Lfm k c.t L fresh node w al=some (0,(if eC≠0 then eC else if e0≠0 then e0 else if freE fresh≠0 then freE fresh else keyE node),al):=by
   unfold Lfm
   rw[c1,bi_some,hcf,bi_some]
   by_cases g0:eC=0
   ·rw[g0] at hE ⊢
    simp only[ne_eq,not_true,if_false] at hE ⊢
    rw[bne_self_eq_false,cond_false]
    rw[show((if ¬ e0=0 then e0 else if ¬ freE fresh=0 then freE fresh else keyE node) != 0)=true by simpa only[bne_iff_ne,ne_eq] using hE,cond_true]
   ·rw[show(eC != 0)=true by simpa using g0,cond_true,if_pos g0]
  generalize hEE:(if eC≠0 then eC else if e0≠0 then e0 else if freE fresh≠0 then freE fresh else keyE node)=E at hE hor hJ hH
  refine⟨al,?_⟩
  unfold Lfh Lfi
  rw[hJ,bi_some,bi_some]
  simp only[]
  rw[hJ,bi_some,bi_some]
  simp only[]
  rw[hH,bi_some,c2,bi_some,d2,bi_some,(Kyk fresh).2,bi_some,Kyl node hnode,bi_some,hor,bi_some,(Kym z).2,bi_some,ors2,bi_some,w1,bi_some,ors2,bi_some]
  rw[if_pos hE,if_pos hE]
  simp only[bne_self_eq_false,Bool.or_self,cond_false]
  rw[show((E:Int)==0)=false by simpa using hE,cond_false,bi_some,cond_false,show((E:Int) != 0)=true by simpa using hE,cond_true,bi_some,cond_true,hpost,bi_some,bi_some]
end
theorem CondsJudged_true(l:List Int)(hl:l.length≤9223372036854775807)(al:List Bool):∃ al',Lhs 200000 l al=some (true,al'):=by
 suffices h:Ok (Lhs 200000 l al) fun r=>r.1=true by
  obtain⟨⟨b,al'⟩,h1,h2⟩:=h
  simp only at h2
  subst h2
  exact⟨al',h1⟩
 unfold Lhs
 have t0:At l 0 0 (⟨l,0⟩:Lcu):=⟨rfl,Int.le_refl _,Int.le_refl _⟩
 refine Kdo (Kti hl t0 (by omega) (by omega) (by omega)) fun y1 ⟨c,c1,c2,c3,c4,t1⟩=>?_
 refine Kdo (Ker t1 0 4 hl (by omega) (by omega) (by omega) (by omega) (by omega)) fun y3 ⟨r0,r4,t3⟩=>?_
 refine Kdo (Ktx (t3.up (by omega) (Int.le_refl _)) y3.1 r0 r4 hl (by omega)) fun y5 ⟨c5,t5⟩=>?_
 refine Kdo (Kzd t5 hl (by omega)) fun y7 t7=>?_
 refine Kdo (Kyy t7 _ hl (by omega) (by simp) (by simp)) fun y9 ⟨m9,t9⟩=>?_
 refine Kdo (Kze t9 hl (by omega)) fun y11 t11=>?_
 refine Kdo (Ktz t11 hl (by omega)) fun y13 t13=>?_
 have h9:y9.1.length≤1000:=by
  simp only[List.mem_cons,List.not_mem_nil,or_false] at m9
  rcases m9 with e | e | e | e<;>simp[e]
 have hlf:c.lf.length≤20000:=by have:=Kte c;omega
 rw[c1]
 obtain⟨al',h⟩:=Kuc (k:=200000) (by omega) c2 c3 hlf (c5.up (by omega)) y7.1 y9.1 h9 y11.1 y13.1 al
 exact⟨_,h,rfl⟩
end Go.Gk
