import Derived.Test.YthhdojhbohfmnaaGreatDoorQVal
set_option linter.all false
set_option maxRecDepth 100000
namespace Go.Gk
theorem Kts(k:Nat)(hk:80000<k):Lax k=some true:=by
 obtain⟨k,rfl⟩:∃ m,k=m+20:=⟨k - 20,by omega⟩
 rfl
theorem Ktt{l:List Int}{b:Int}{s:Kwz}(h:At l 0 b s)(many:Int)(h0:0≤many)(hm:many≤4)(hl:l.length≤9223372036854775807)(h1:b<2000000000000000000) :
  Ok (Kxq s many) fun r=>Cls (6 * many.toNat+1) r.1∧At l 0 (b+5000) r.2:=by
 have:=Ktf h many.toNat (by omega) hl h1
 rw[Int.toNat_of_nonneg h0] at this
 exact this
theorem Ktu(L:List Kxb)(h:L.length≤1000):Kxr L=some L:=by
 unfold Kxr
 rw[Kwa (by simp;omega)];rfl
theorem Ktv{n:Nat}{L:List Kxb}(h:Cls n L)(i:Nat){c:Kxb}(hc:ClS c):Cls n (L.set i c):=⟨by rw[List.length_set];exact h.1,fun x hx=>(List.mem_or_eq_of_mem_set hx).elim (h.2 x) fun e=>e▸hc⟩
theorem Ktw(A B:List Kxb)(hA:Cls 25 A)(hB:Cls 25 B)(fresh:Int)(node name:Str)(hn:node.length≤1000)(hm:name.length≤1000)(v:Int)(x y:Kxa)(hx:AtS x)(hy:AtS y)(al:List Bool) :
  Ok (bi (Kyn 200000 A fresh node name v al) fun y46=>bi (Kyv 200000 A B) fun y48=>bi (Kyy 200000 x y) fun y50=>bi (Kzg 200000 A) fun y52=>bi (Kye 200000 A) fun y54=>bif (y54:Int) != y52 then(some (false,y46.2.2.2)) else(bi (Kzh fresh) fun y58=>bi (Kzj node) fun y60=>bi (Kzj name) fun y62=>bi (Kzk v) fun y64=>bi (Kzl [y52,y58,y60,y62,y64]) fun y66=>bi (Kzg 200000 B) fun y68=>bi (Kzl [y52,y68]) fun y70=>bi (Kze 200000 x) fun y72=>bi (Kze 200000 y) fun y74=>bi (Kzl [y72,y74]) fun y76=>bi (bif (y66:Int)==0 then(bi (Kzm A fresh node name v) fun y81=>some (y81.1,y81.2)) else(some ((⟨0,0,[],(0,0,0,0)⟩:Kxa),false))) fun q78=>bif ((((y46.2.2.1:Int) != y66)||(!(((y46.1.Kind:Int)==q78.1.Kind)&&(((y46.1.Number:Int)==q78.1.Number)&&(((y46.1.Words:Str)==q78.1.Words)&&(decide (([y46.1.Version.1,y46.1.Version.2.1,y46.1.Version.2.2.1,y46.1.Version.2.2.2]:List Int)=[q78.1.Version.1,q78.1.Version.2.1,q78.1.Version.2.2.1,q78.1.Version.2.2.2])&&true))))))||(!((y46.2.1:Bool)==q78.2))) then(some (false,y46.2.2.2)) else(bi (bif (y70:Int)==0 then(bi (Kzq 200000 A B) fun y89=>some (y89.2,y89.1)) else(some (y70,[]))) fun q86=>bi (bif (y48.2:Int) != q86.1 then(some true) else(bi (Kzr y48.1 q86.2) fun y96=>some (!y96))) fun q92=>bif q92 then(some (false,y46.2.2.2)) else(bi (bif (y76:Int)==0 then(bi (Kzs x y) fun y103=>some (y103.1,y103.2)) else(some (0,false))) fun q100=>bi (bif ((((y50.2.2:Int)==y76)&&((y50.1:Int)==q100.1))&&((y50.2.1:Bool)==q100.2)) then(bi (Lax 200000) fun y109=>some y109) else(some false)) fun q106=>some (q106,y46.2.2.2))))) fun r=>r.1=true:=by
 have hA1:=hA.1
 have hB1:=hB.1
 obtain⟨a,kn,e,al',e0,v1,v2,v3,v4,v5⟩:=Ksp 200000 (by decide) A (by omega) hA.2 fresh node name hn hm v al
 obtain⟨q,f,ea,eb,m1,m2,m3,m4,m5⟩:=Kvc 200000 (by decide) A B (by omega) hA.2 hB.2
 obtain⟨n,g,o,oa,ob,o1,o2,o3,o4⟩:=Kvf 200000 (by decide) x y hx hy
 obtain rfl:ea=e0:=by rw[m2] at v2;exact oSi v2
 refine Kbr v1 (Kbr m1 (Kbr o1 (Kbr m3 (Kbr m2 ?_))))
 simp only[bne_self_eq_false,cond_false]
 refine Kbr (Ksk fresh).2 (Kbr (Ksl node hn) (Kbr (Ksl name hm) (Kbr (Ksm v).2 (Kbr v4 (Kbr m4 (Kbr (ors2 ea eb) (Kbr o2 (Kbr o3 (Kbr (ors2 oa ob) ?_)))))))))
 generalize (if ea≠0 then ea else eb)=e7 at m5 ⊢
 generalize (if oa≠0 then oa else ob)=e8 at o4 ⊢
 have h78:(bif (e:Int)==0 then(bi (Kzm A fresh node name v) fun y81=>some (y81.1,y81.2)) else(some ((⟨0,0,[],(0,0,0,0)⟩:Kxa),false)))=some (a,kn):=by
  by_cases h:e=0
  ·rw[if_pos h] at v5
   rw[v5,h];rfl
  ·rw[if_neg h] at v5
   have:(e==0)=false:=by simpa using h
   rw[this,v5];rfl
 refine Kbr h78 ?_
 simp only[bne_self_eq_false,BEq.rfl,decide_true,Bool.and_self,Bool.not_true,Bool.or_self,cond_false]
 have h86:(bif (e7:Int)==0 then(bi (Kzq 200000 A B) fun y89=>some (y89.2,y89.1)) else(some (e7,[])))=some (f,q):=by
  by_cases h:e7=0
  ·rw[if_neg (by simpa using h)] at m5
   rw[m5,h];rfl
  ·rw[if_pos h] at m5
   have:(e7==0)=false:=by simpa using h
   cases m5
   rw[this];rfl
 refine Kbr h86 ?_
 simp only[bne_self_eq_false,cond_false]
 rw[Kvd]
 simp only[bi_some,Bool.not_true,cond_false]
 by_cases h:e8=0
 ·rw[if_neg (by simpa using h)] at o4
  rw[o4.1,o4.2,h]
  simp only[BEq.rfl,cond_true,bi_some,Bool.and_self]
  rw[Kts 200000 (by decide)]
  exact Kbp rfl
 ·rw[if_pos h] at o4
  have:(e8==0)=false:=by simpa using h
  cases o4
  rw[this]
  simp only[BEq.rfl,cond_true,cond_false,bi_some,Bool.and_self]
  rw[Kts 200000 (by decide)]
  exact Kbp rfl
theorem ClaimsKnown_true(l:List Int)(hl:l.length≤9223372036854775807)(al:List Bool):∃ al',Laz 200000 l al=some (true,al'):=by
 suffices h:Ok (Laz 200000 l al) fun r=>r.1=true by
  obtain⟨⟨b,al'⟩,h1,h2⟩:=h
  simp only at h2
  subst h2
  exact⟨al',h1⟩
 unfold Laz
 have t0:At l 0 0 (⟨l,0⟩:Kwz):=⟨rfl,Int.le_refl _,Int.le_refl _⟩
 refine Kbq (Kcd t0 0 4 hl (by omega) (by omega) (by omega) (by omega) (by omega)) fun y1 ⟨a1,b1,t1⟩=>?_
 refine Kbq (Ktt (t1.up (a':=0) (b':=1) (by omega) (by omega)) y1.1 a1 b1 hl (by omega)) fun y3 ⟨c3,t3⟩=>?_
 have c3:Cls 25 y3.1:=c3.up (by omega)
 refine Kbq (Kcd t3 0 2 hl (by omega) (by omega) (by omega) (by omega) (by omega)) fun y5 ⟨a5,b5,t5⟩=>?_
 refine Kbq (Ktt (t5.up (a':=0) (b':=6000) (by omega) (by omega)) y5.1 a5 (by omega) hl (by omega)) fun y7 ⟨c7,t7⟩=>?_
 have c7:Cls 25 y7.1:=c7.up (by omega)
 refine Kbq (P:=fun q:Kwz×Bool=>At l 0 20000 q.1∧(q.2=true→0<y3.1.length)) (Kbt (fun hc=>?_) fun _=>Kbp ⟨t7.up (by omega) (by omega),fun h=>by cases h⟩) fun q9 ⟨t9,p9⟩=>?_
 ·refine Kbq (Ksy t7 2 hl (by omega) (by omega) (by omega)) fun y12 t12=>Kbp ⟨t12.up (by omega) (by omega),fun _=>?_⟩
  have:=of_decide_eq_true hc
  omega
 refine Kbq (P:=fun q:Kwz×List Kxb=>At l 0 30000 q.1∧Cls 25 q.2) (Kbt (fun hc=>?_) fun _=>Kbp ⟨t9.up (by omega) (by omega),c7⟩) fun q15 ⟨t15,c15⟩=>?_
 ·have hp:=p9 hc
  have h31:=c3.1
  refine Kbq (Ksx t9 (y3.1.length:Int) hl (by omega) (by omega) (by omega)) fun y18 ⟨a18,b18,t18⟩=>?_
  obtain⟨r,hr⟩:∃ r:Nat,y18.1=(r:Int):=⟨y18.1.toNat,by omega⟩
  have hz:subZ y3.1 y18.1 (y3.1.length:Int)=some ((y3.1.take y3.1.length).drop r):=by rw[hr];exact Kwi (by omega) (Nat.le_refl _)
  rw[List.take_length] at hz
  have cz:Cls 25 (y3.1.drop r):=⟨by rw[List.length_drop];omega,fun c hc=>c3.2 c (List.mem_of_mem_drop hc)⟩
  refine Kbr hz (Kbr (Ktu _ (by have:=cz.1;omega)) ?_)
  refine Kbq (Ksy t18 5 hl (by omega) (by omega) (by omega)) fun y24 t24=>?_
  refine Kbt (fun _=>?_) fun _=>Kbp ⟨t24.up (by omega) (by omega),cz⟩
  refine Kbq (Ktd t24 hl (by omega)) fun y27 ⟨a27,t27⟩=>?_
  have h0:0<(y3.1.drop r).length:=by rw[List.length_drop];omega
  have hg:=gGe h0
  refine Kbx (j:=0) rfl hg (Kbp ⟨t27.up (by omega) (by omega),?_⟩)
  have hx:=cz.2 _ (List.getElem_mem h0)
  exact Ktv cz _ ⟨hx.1,hx.2.1,a27⟩
 refine Kbq (Ktg t15 hl (by omega)) fun y34 t34=>?_
 refine Kbq (Kta t34 _ hl (by omega) (by simp) (by simp)) fun y36 ⟨m36,t36⟩=>?_
 refine Kbq (Kta t36 _ hl (by omega) (by simp) (by simp)) fun y38 ⟨m38,t38⟩=>?_
 refine Kbq (Kth t38 hl (by omega)) fun y40 t40=>?_
 refine Kbq (Ktd t40 hl (by omega)) fun y42 ⟨a42,t42⟩=>?_
 refine Kbq (Ktd t42 hl (by omega)) fun y44 ⟨a44,t44⟩=>?_
 refine Ktw y3.1 q15.2 c3 c15 y34.1 y36.1 y38.1 ?_ ?_ y40.1 y42.1 y44.1 a42 a44 al
 ·simp only[List.mem_cons,List.not_mem_nil,or_false] at m36
  rcases m36 with e | e | e<;>simp[e]
 simp only[List.mem_cons,List.not_mem_nil,or_false] at m38
 rcases m38 with e | e | e | e<;>simp[e]
end Go.Gk
