import Derived.Test.YthhdojhbohfmnaaGreatDoorJTime
import Derived.Test.YthhdojhbohfmnaaGreatDoorCDraw
import Derived.Test.YthhdojhbohfmnaaGreatDoorQDraw
set_option linter.all false
set_option maxRecDepth 100000
namespace Go.Gk
mutual
theorem Kqu:∀ c:CC,c.lf.length≤c.tw
 | .mk k n o v l=>by
  simp only[CC.lf,CC.tw]
  have h:=Kqv l
  split
  ·cases l with
   | nil=>simp[CC.tws]
   | cons c r=>simp only[CC.tws,List.length_singleton];omega
  omega
theorem Kqv:∀ l:List CC,(CC.lfs l).length≤CC.tws l
 | []=>by simp[CC.lfs]
 | c :: r=>by
  have h1:=Kqu c
  have h2:=Kqv r
  simp only[CC.lfs,CC.tws,List.length_append]
  omega
end
theorem Kqw{v:Kyd}(h:RV v):v.Words.length≤1000:=by
 cases h with
 | num n h=>simp
 | bool n h=>simp
 | ver n h=>simp
 | words w h=>
  simp only[List.mem_cons,List.not_mem_nil,or_false] at h
  rcases h with rfl | rfl | rfl<;>simp
theorem Kqx{c:CC}(h:RC c):c.Gd:=by
 induction h with
 | leaf hn ho hv=>exact .mk (by omega) (by have:=Kqw hv;omega) (by simp)
 | node hk hl h ih=>exact .mk (by simp) (by simp[zA]) ih
def SC(l:List Int)(b:Int)(s:Kyc)(x:Kye):Prop:=∃ c:CC,x=c.t∧c.Gd∧c.dp≤40∧c.tw≤100000∧At l 0 b s
theorem mk_t(k:Int)(n o:Str)(v:Kyd)(L:List CC):(⟨k,n,o,v,pk Kyf (L.map CC.t)⟩:Kye)=(CC.mk k n o v L).t:=by
 simp only[CC.t,Kav]
theorem hll(z:List CC):z.length≤CC.tws z:=by
 induction z with
 | nil=>simp
 | cons c r ih=>simp only[List.length_cons,CC.tws];omega
theorem Kqy{l:List Int}(hl:l.length≤9223372036854775807){b:Int}{s:Kyc}(h:At l 0 b s)(h0:0≤b)(h1:b<1000000000000000000){k:Nat}(hk:100<k) :
  Ok (Kyz k s) fun r=>SC l (b+1000) r.2 r.1:=by
 unfold Kyz
 refine Kcq (Kvc h _ hl (by omega) (by simp) (by simp)) fun y1 ⟨m1,t1⟩=>?_
 have hm:∃ m:Nat,m≤2∧y1.1=(m:Int):=by
  simp only[List.mem_cons,List.not_mem_nil,or_false] at m1
  rcases m1 with e | e | e | e
  ·exact⟨0,by omega,e⟩
  ·exact⟨1,by omega,e⟩
  ·exact⟨2,by omega,e⟩
  ·exact⟨2,by omega,e⟩
 obtain⟨m,hm2,hme⟩:=hm
 have hBD1:BD 1≤100:=by decide
 have hBW1:BW 1≤1000:=by decide
 have hBD:BD m≤170:=by
  have:∀ m≤2,BD m≤170:=by decide
  exact this m hm2
 have hBW:BW m≤1000:=by
  have:∀ m≤2,BW m≤1000:=by decide
  exact this m hm2
 rw[hme]
 refine Kcq (Kbz hl m k (b+1) y1.2 (by omega) (by omega) (by omega) (by omega) (t1.up (by omega) (by omega))) fun y3 ⟨c,c1,c2,c3,c4,c5⟩=>?_
 have hg:=Kqx c2
 obtain⟨y3a,y3b⟩:=y3
 simp only at c1 c5
 subst c1
 refine Kcq (Kvb c5 12 hl (by omega) (by omega) (by omega)) fun y5 t5=>?_
 refine Kcq (P:=fun q:Kyc×Kye=>∃ c:CC,q.2=c.t∧c.Gd∧c.dp≤5∧c.tw≤10000∧At l 0 (b+600) q.1) ?_ fun q7 ⟨c,q1,q2,q3,q4,q5⟩=>?_
 ·cases c with
  | mk K nm op va L=>
   cases hg with
   | mk g1 g2 g3=>
    refine Kct (fun _=>?_) (fun _=>Kcp ⟨_,rfl,.mk g1 g2 g3,by omega,by omega,t5.up (by omega) (by omega)⟩)
    refine Kcq (Kva t5 6 hl (by omega) (by omega) (by omega)) fun y10 ⟨_,_,t10⟩=>?_
    refine Kct (fun _=>?_) (fun _=>Kct (fun _=>?_) (fun _=>Kct (fun _=>?_) (fun _=>Kct (fun _=>?_) (fun _=>Kct (fun _=>?_) (fun _=>?_)))))
    ·refine Kcq (Kvd t10 _ hl (by omega) (by simp) (by simp)) fun y13 ⟨m13,t13⟩=>Kcp ⟨.mk K y13.1 op va L,rfl,.mk ?_ g2 g3,by simp only[CC.dp] at c3 ⊢;omega,by simp only[CC.tw] at c4 ⊢;omega,t13.up (by omega) (by omega)⟩
     simp only[List.mem_cons,List.not_mem_nil,or_false] at m13
     rcases m13 with e | e | e | e | e | e<;>simp[e]
    ·refine Kcq (Kvd t10 _ hl (by omega) (by simp) (by simp)) fun y17 ⟨_,t17⟩=>Kcp ⟨.mk K nm y17.1 va L,rfl,.mk g1 g2 g3,by simp only[CC.dp] at c3 ⊢;omega,by simp only[CC.tw] at c4 ⊢;omega,t17.up (by omega) (by omega)⟩
    ·refine Kcq (Kvf t10 hl (by omega)) fun y21 ⟨a21,t21⟩=>Kcp ⟨.mk K nm op y21.1 L,rfl,.mk g1 (by unfold AtS at a21;omega) g3,by simp only[CC.dp] at c3 ⊢;omega,by simp only[CC.tw] at c4 ⊢;omega,t21.up (by omega) (by omega)⟩
    ·refine Kcq (Kdd t10 1 4 hl (by omega) (by omega) (by omega) (by omega) (by omega)) fun y25 t25=>Kcp ⟨.mk y25.1 nm op va L,rfl,.mk g1 g2 g3,by simp only[CC.dp] at c3 ⊢;omega,by simp only[CC.tw] at c4 ⊢;omega,t25.up (by omega) (by omega)⟩
    ·have hLl:=hll L
     rw[Kaw,bi_some]
     unfold Kyy
     simp only[CC.kids]
     simp only[CC.tw] at c4
     rw[Kxb (by simp;omega),bi_some,bi_some,List.nil_append]
     refine Kcq (Kbz hl 1 k (b+450) y10.2 (by omega) (by omega) (by omega) (by omega) (t10.up (by omega) (by omega))) fun y33 ⟨c',d1,d2,d3,d4,d5⟩=>?_
     rw[d1,Kxb (by simp;omega),bi_some,show([c'.t]:List Kye)=[c'].map CC.t from rfl,←List.map_append]
     refine Kcp ⟨.mk K nm op va (L++[c']),mk_t K nm op va _,.mk g1 g2 fun x hx=>(List.mem_append.1 hx).elim (g3 x) fun h=>by rw[List.mem_singleton.1 h];exact Kqx d2,?_,?_,d5.up (by omega) (by omega)⟩
     ·simp only[CC.dp,Kbs,CC.dps] at c3 ⊢
      omega
     ·have:BW 1≤1000:=by decide
      simp only[CC.tw,Kbr,CC.tws]
      split<;>omega
    ·refine Kcq (Kvc t10 _ hl (by omega) (by simp) (by simp)) fun y38 ⟨_,t38⟩=>Kcp ⟨.mk y38.1 [] [] zA [.mk K nm op va L,.mk K nm op va L],mk_t y38.1 [] [] zA [.mk K nm op va L,.mk K nm op va L],.mk (by simp) (by simp[zA]) fun x hx=>?_,?_,?_,t38.up (by omega) (by omega)⟩
     ·simp only[List.mem_cons,List.not_mem_nil,or_false,or_self] at hx
      subst hx
      exact .mk g1 g2 g3
     ·simp only[CC.dp,CC.dps] at c3 ⊢
      omega
     ·simp only[CC.tw,CC.tws] at c4 ⊢
      simp only[List.isEmpty_cons,Bool.false_eq_true,if_false]
      omega
 ·refine Kcq (Kvb q5 40 hl (by omega) (by omega) (by omega)) fun y41 t41=>?_
  refine Kcq (P:=fun q:Kyc×Kye=>SC l (b+1000) q.1 q.2) ?_ fun q43 hq=>Kcp hq
  refine Kct (fun _=>?_) (fun _=>Kcp ⟨c,q1,q2,by omega,by omega,t41.up (by omega) (by omega)⟩)
  refine Kcq (Kvc t41 _ hl (by omega) (by simp) (by simp)) fun y46 ⟨m46,t46⟩=>?_
  have h46:28≤y46.1∧y46.1≤30:=by
   simp only[List.mem_cons,List.not_mem_nil,or_false] at m46
   omega
  refine Kcq (P:=fun x:Kye=>∃ c:CC,x=c.t∧c.Gd∧c.dp≤40∧c.tw≤100000) ?_ fun x ⟨c,x1,x2,x3,x4⟩=>Kcp ⟨c,x1,x2,x3,x4,t46.up (by omega) (by omega)⟩
  refine Kcu (dT (by omega)) ?_
  rw[q1]
  refine Kcs (Kcw (fun i (x:Kye)=>∃ c:CC,x=c.t∧c.Gd∧c.dp≤5+i∧c.tw≤10000+10 * i) ⟨c,rfl,q2,by omega,by omega⟩ ?_) ?_
  ·intro i x hi ⟨c,x1,x2,x3,x4⟩
   subst x1
   refine Kcp ⟨.mk 2 [] [] zA [c],mk_t 2 [] [] zA [c],.mk (by simp) (by simp[zA]) (fun y hy=>by rw[List.mem_singleton.1 hy];exact x2),?_,?_⟩
   ·simp only[CC.dp,CC.dps];omega
   ·simp only[CC.tw,CC.tws,List.isEmpty_cons,Bool.false_eq_true,if_false];omega
  ·intro x ⟨c,x1,x2,x3,x4⟩
   exact⟨c,x1,x2,by omega,by omega⟩
theorem Kqz{l:List Int}(hl:l.length≤9223372036854775807){b:Int}{s:Kyc}(h:At l 0 b s)(h0:0≤b)(h1:b<1000000000000000000){k:Nat}(hk:100<k) :
  Ok (Kyu k s 1) fun r=>SC l (b+1000) r.2 r.1:=by
 have hBD:BD 1≤100:=by decide
 have hBW:BW 1≤1000:=by decide
 refine Kcs (Kbz hl 1 k b s (by omega) (by omega) h0 (by omega) h) fun r ⟨c,c1,c2,c3,c4,c5⟩=>⟨c,c1,Kqx c2,by omega,by omega,c5.up (by omega) (by omega)⟩
theorem Kra{k:Nat}(hk:60000<k){n:Str}(hn:n.length≤1000){c:CC}(h1:c.Gd)(h2:c.dp≤40)(h3:c.tw≤100000):PcS k (n,c):=⟨hn,h1,by simp only;omega,by have:=Kqu c;simp only;omega⟩
theorem Krb{l:List Int}(hl:l.length≤9223372036854775807){b:Int}{s:Kyc}(h:At l 0 b s)(h0:0≤b)(h1:b<100000000000000000){k:Nat}(hk:60000<k) :
  Ok (Kza k s) fun r=>∃ P:List PC,r.1=P.map PC.t∧P.length≤3∧(∀ x∈P,PcS k x)∧At l 0 (b+10000) r.2:=by
 unfold Kza
 refine Kcq (P:=fun q:Kyc×List Kyg=>∃ P:List PC,q.2=P.map PC.t∧P.length≤2∧(∀ x∈P,PcS k x)∧At l 0 (b+4000) q.1) ?_ fun q4 ⟨P,p1,p2,p3,p4⟩=>?_
 ·refine Kcs (Kcv (fun i (q:Kyc×List Kyg)=>∃ P:List PC,q.2=P.map PC.t∧P.length≤i∧(∀ x∈P,PcS k x)∧At l 0 (b+i * 2000) q.1) ⟨[],rfl,by simp,by simp,by simpa using h⟩ ?_) fun q ⟨P,p1,p2,p3,p4⟩=>⟨P,p1,by simpa using p2,p3,p4.up (by omega) (by simp)⟩
  intro i x q hi ⟨P,p1,p2,p3,p4⟩
  have hi2:i<2:=by simpa using (gEs.1 hi).1
  have hx:x.length≤1000:=by
   have hm:=mOg hi
   simp only[List.mem_cons,List.not_mem_nil,or_false] at hm
   rcases hm with e | e<;>simp[e]
  have hnx:b+((i+1:Nat):Int) * 2000=b+(i:Int) * 2000+2000:=by omega
  rw[hnx]
  refine Kcq (Kvb p4 4 hl (by omega) (by omega) (by omega)) fun y12 t12=>?_
  refine Kct (fun _=>?_) (fun _=>Kcp ⟨P,p1,by omega,p3,t12.up (by omega) (by omega)⟩)
  refine Kcq (Kqz hl t12 (by omega) (by omega) (by omega)) fun y15 ⟨c,c1,c2,c3,c4,c5⟩=>?_
  rw[p1,c1]
  refine Kcx (by simp;omega) (Kcp ⟨P++[(x,c)],by simp[PC.t],by simp;omega,fun y hy=>(List.mem_append.1 hy).elim (p3 y) fun e=>by rw[List.mem_singleton.1 e];exact Kra hk hx c2 c3 c4,c5.up (by omega) (by omega)⟩)
 ·refine Kcq (Kvb p4 20 hl (by omega) (by omega) (by omega)) fun y20 t20=>?_
  refine Kcq (P:=fun q:Kyc×List Kyg=>∃ P:List PC,q.2=P.map PC.t∧P.length≤3∧(∀ x∈P,PcS k x)∧At l 0 (b+10000) q.1) ?_ fun q ⟨P,p1,p2,p3,p4⟩=>Kcp ⟨P,p1,p2,p3,p4⟩
  refine Kct (fun _=>?_) (fun _=>Kcp ⟨P,p1,by omega,p3,t20.up (by omega) (by omega)⟩)
  refine Kcq (Kvd t20 _ hl (by omega) (by simp) (by simp)) fun y25 ⟨m25,t25⟩=>?_
  have hx:y25.1.length≤1000:=by
   simp only[List.mem_cons,List.not_mem_nil,or_false] at m25
   rcases m25 with e | e | e<;>simp[e]
  refine Kcq (Kqy hl t25 (by omega) (by omega) (by omega)) fun y27 ⟨c,c1,c2,c3,c4,c5⟩=>?_
  rw[p1,c1]
  refine Kcx (by simp;omega) (Kcp ⟨P++[(y25.1,c)],by simp[PC.t],by simp;omega,fun y hy=>(List.mem_append.1 hy).elim (p3 y) fun e=>by rw[List.mem_singleton.1 e];exact Kra hk hx c2 c3 c4,c5.up (by omega) (by omega)⟩)
theorem Krc{l:List Int}(hl:l.length≤9223372036854775807){b:Int}{s:Kyc}(h:At l 0 b s)(h0:0≤b)(h1:b<100000000000000000) :
  Ok (Kze s) fun r=>r.1.length≤3∧(∀ x∈r.1,x.length≤1000)∧At l 0 (b+100) r.2:=by
 unfold Kze
 refine Kcq (Kvc h _ hl (by omega) (by simp) (by simp)) fun y1 ⟨m1,t1⟩=>?_
 refine Kcq (P:=fun x:List Str=>x.length≤2∧∀ y∈x,y.length≤1000) ?_ fun x3 ⟨x1,x2⟩=>?_
 ·simp only[List.mem_cons,List.not_mem_nil,or_false] at m1
  rcases m1 with e | e | e | e | e<;>(rw[e];exact⟨_,rfl,by decide,by decide⟩)
 ·refine Kcq (Kvb t1 20 hl (by omega) (by omega) (by omega)) fun y5 t5=>?_
  refine Kcq (P:=fun q:Kyc×List Str=>q.2.length≤3∧(∀ x∈q.2,x.length≤1000)∧At l 0 (b+100) q.1) ?_ fun q ⟨q1,q2,q3⟩=>Kcp ⟨q1,q2,q3⟩
  refine Kct (fun _=>?_) (fun _=>Kcp ⟨by simp only;omega,x2,t5.up (by omega) (by omega)⟩)
  unfold Kzd
  rw[Kxb (by simp;omega),bi_some,bi_some,List.nil_append]
  refine Kcq (Kvd t5 _ hl (by omega) (by simp) (by simp)) fun y12 ⟨m12,t12⟩=>?_
  have hx:y12.1.length≤1000:=by
   simp only[List.mem_cons,List.not_mem_nil,or_false] at m12
   rcases m12 with e | e | e<;>simp[e]
  refine Kcx (by simp;omega) (Kcp ⟨by simp;omega,fun y hy=>(List.mem_append.1 hy).elim (x2 y) fun e=>by rw[List.mem_singleton.1 e];exact hx,t12.up (by omega) (by omega)⟩)
end Go.Gk
