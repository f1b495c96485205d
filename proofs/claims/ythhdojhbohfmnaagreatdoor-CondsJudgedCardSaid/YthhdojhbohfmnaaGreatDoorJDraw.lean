import Derived.Test.YthhdojhbohfmnaaGreatDoorJTime
import Derived.Test.YthhdojhbohfmnaaGreatDoorCDraw
import Derived.Test.YthhdojhbohfmnaaGreatDoorQDraw
set_option linter.all false
set_option maxRecDepth 100000
namespace Go.Gk
mutual
theorem Kte:∀ c:CC,c.lf.length≤c.tw
 | .mk k n o v l=>by
  simp only[CC.lf,CC.tw]
  have h:=Ktf l
  split
  ·cases l with
   | nil=>simp[CC.tws]
   | cons c r=>simp only[CC.tws,List.length_singleton];omega
  omega
theorem Ktf:∀ l:List CC,(CC.lfs l).length≤CC.tws l
 | []=>by simp[CC.lfs]
 | c :: r=>by
  have h1:=Kte c
  have h2:=Ktf r
  simp only[CC.lfs,CC.tws,List.length_append]
  omega
end
theorem Ktg{v:Lcv}(h:RV v):v.Words.length≤1000:=by
 cases h with
 | num n h=>simp
 | bool n h=>simp
 | ver n h=>simp
 | words w h=>
  simp only[List.mem_cons,List.not_mem_nil,or_false] at h
  rcases h with rfl | rfl | rfl<;>simp
theorem Kth{c:CC}(h:RC c):c.Gd:=by
 induction h with
 | leaf hn ho hv=>exact .mk (by omega) (by have:=Ktg hv;omega) (by simp)
 | node hk hl h ih=>exact .mk (by simp) (by simp[zA]) ih
def SC(l:List Int)(b:Int)(s:Lcu)(x:Lcw):Prop:=∃ c:CC,x=c.t∧c.Gd∧c.dp≤40∧c.tw≤20000∧At l 0 b s
theorem mk_t(k:Int)(n o:Str)(v:Lcv)(L:List CC):(⟨k,n,o,v,pk Lcx (L.map CC.t)⟩:Lcw)=(CC.mk k n o v L).t:=by
 simp only[CC.t,Kav]
theorem hll(z:List CC):z.length≤CC.tws z:=by
 induction z with
 | nil=>simp
 | cons c r ih=>simp only[List.length_cons,CC.tws];omega
theorem Kti{l:List Int}(hl:l.length≤9223372036854775807){b:Int}{s:Lcu}(h:At l 0 b s)(h0:0≤b)(h1:b<1000000000000000000){k:Nat}(hk:100<k) :
  Ok (Ldq k s) fun r=>SC l (b+1000) r.2 r.1:=by
 unfold Ldq
 refine Kdo (Kyx h _ hl (by omega) (by simp) (by simp)) fun y1 ⟨m1,t1⟩=>?_
 have hm:∃ m:Nat,m≤2∧y1.1=(m:Int):=by
  simp only[List.mem_cons,List.not_mem_nil,or_false] at m1
  rcases m1 with e | e | e | e
  ·exact⟨0,by omega,e⟩
  ·exact⟨1,by omega,e⟩
  ·exact⟨2,by omega,e⟩
  ·exact⟨2,by omega,e⟩
 obtain⟨m,hm2,hme⟩:=hm
 have hBD1:BD 1≤100:=by decide
 have hBW1:BW 1≤1000:=by decide
 have hBD:BD m≤170:=by
  have:∀ m≤2,BD m≤170:=by decide
  exact this m hm2
 have hBW:BW m≤1000:=by
  have:∀ m≤2,BW m≤1000:=by decide
  exact this m hm2
 rw[hme]
 refine Kdo (Kca hl m k (b+1) y1.2 (by omega) (by omega) (by omega) (by omega) (t1.up (by omega) (by omega))) fun y3 ⟨c,c1,c2,c3,c4,c5⟩=>?_
 have hg:=Kth c2
 obtain⟨y3a,y3b⟩:=y3
 simp only at c1 c5
 subst c1
 refine Kdo (Kyw c5 12 hl (by omega) (by omega) (by omega)) fun y5 t5=>?_
 refine Kdo (P:=fun q:Lcu×Lcw=>∃ c:CC,q.2=c.t∧c.Gd∧c.dp≤5∧c.tw≤10000∧At l 0 (b+600) q.1) ?_ fun q7 ⟨c,q1,q2,q3,q4,q5⟩=>?_
 ·cases c with
  | mk K nm op va L=>
   cases hg with
   | mk g1 g2 g3=>
    refine Kdr (fun _=>?_) (fun _=>Kdn ⟨_,rfl,.mk g1 g2 g3,by omega,by omega,t5.up (by omega) (by omega)⟩)
    refine Kdo (Kyv t5 6 hl (by omega) (by omega) (by omega)) fun y10 ⟨_,_,t10⟩=>?_
    refine Kdr (fun _=>?_) (fun _=>Kdr (fun _=>?_) (fun _=>Kdr (fun _=>?_) (fun _=>Kdr (fun _=>?_) (fun _=>Kdr (fun _=>?_) (fun _=>?_)))))
    ·refine Kdo (Kyy t10 _ hl (by omega) (by simp) (by simp)) fun y13 ⟨m13,t13⟩=>Kdn ⟨.mk K y13.1 op va L,rfl,.mk ?_ g2 g3,by simp only[CC.dp] at c3 ⊢;omega,by simp only[CC.tw] at c4 ⊢;omega,t13.up (by omega) (by omega)⟩
     simp only[List.mem_cons,List.not_mem_nil,or_false] at m13
     rcases m13 with e | e | e | e | e | e<;>simp[e]
    ·refine Kdo (Kyy t10 _ hl (by omega) (by simp) (by simp)) fun y17 ⟨_,t17⟩=>Kdn ⟨.mk K nm y17.1 va L,rfl,.mk g1 g2 g3,by simp only[CC.dp] at c3 ⊢;omega,by simp only[CC.tw] at c4 ⊢;omega,t17.up (by omega) (by omega)⟩
    ·refine Kdo (Kza t10 hl (by omega)) fun y21 ⟨a21,t21⟩=>Kdn ⟨.mk K nm op y21.1 L,rfl,.mk g1 (by unfold AtS at a21;omega) g3,by simp only[CC.dp] at c3 ⊢;omega,by simp only[CC.tw] at c4 ⊢;omega,t21.up (by omega) (by omega)⟩
    ·refine Kdo (Kes t10 1 4 hl (by omega) (by omega) (by omega) (by omega) (by omega)) fun y25 t25=>Kdn ⟨.mk y25.1 nm op va L,rfl,.mk g1 g2 g3,by simp only[CC.dp] at c3 ⊢;omega,by simp only[CC.tw] at c4 ⊢;omega,t25.up (by omega) (by omega)⟩
    ·have hLl:=hll L
     rw[Kaw,bi_some]
     unfold Ldp
     simp only[CC.kids]
     simp only[CC.tw] at c4
     rw[Lbe (by simp;omega),bi_some,bi_some,List.nil_append]
     refine Kdo (Kca hl 1 k (b+450) y10.2 (by omega) (by omega) (by omega) (by omega) (t10.up (by omega) (by omega))) fun y33 ⟨c',d1,d2,d3,d4,d5⟩=>?_
     rw[d1,Lbe (by simp;omega),bi_some,show([c'.t]:List Lcw)=[c'].map CC.t from rfl,←List.map_append]
     refine Kdn ⟨.mk K nm op va (L++[c']),mk_t K nm op va _,.mk g1 g2 fun x hx=>(List.mem_append.1 hx).elim (g3 x) fun h=>by rw[List.mem_singleton.1 h];exact Kth d2,?_,?_,d5.up (by omega) (by omega)⟩
     ·simp only[CC.dp,Kbt,CC.dps] at c3 ⊢
      omega
     ·have:BW 1≤1000:=by decide
      simp only[CC.tw,Kbs,CC.tws]
      split<;>omega
    ·refine Kdo (Kyx t10 _ hl (by omega) (by simp) (by simp)) fun y38 ⟨_,t38⟩=>Kdn ⟨.mk y38.1 [] [] zA [.mk K nm op va L,.mk K nm op va L],mk_t y38.1 [] [] zA [.mk K nm op va L,.mk K nm op va L],.mk (by simp) (by simp[zA]) fun x hx=>?_,?_,?_,t38.up (by omega) (by omega)⟩
     ·simp only[List.mem_cons,List.not_mem_nil,or_false,or_self] at hx
      subst hx
      exact .mk g1 g2 g3
     ·simp only[CC.dp,CC.dps] at c3 ⊢
      omega
     ·simp only[CC.tw,CC.tws] at c4 ⊢
      simp only[List.isEmpty_cons,Bool.false_eq_true,if_false]
      omega
 ·refine Kdo (Kyw q5 40 hl (by omega) (by omega) (by omega)) fun y41 t41=>?_
  refine Kdo (P:=fun q:Lcu×Lcw=>SC l (b+1000) q.1 q.2) ?_ fun q43 hq=>Kdn hq
  refine Kdr (fun _=>?_) (fun _=>Kdn ⟨c,q1,q2,by omega,by omega,t41.up (by omega) (by omega)⟩)
  refine Kdo (Kyx t41 _ hl (by omega) (by simp) (by simp)) fun y46 ⟨m46,t46⟩=>?_
  have h46:28≤y46.1∧y46.1≤30:=by
   simp only[List.mem_cons,List.not_mem_nil,or_false] at m46
   omega
  refine Kdo (P:=fun x:Lcw=>∃ c:CC,x=c.t∧c.Gd∧c.dp≤40∧c.tw≤20000) ?_ fun x ⟨c,x1,x2,x3,x4⟩=>Kdn ⟨c,x1,x2,x3,x4,t46.up (by omega) (by omega)⟩
  refine Kds (dT (by omega)) ?_
  rw[q1]
  refine Kdq (Kdu (fun i (x:Lcw)=>∃ c:CC,x=c.t∧c.Gd∧c.dp≤5+i∧c.tw≤10000+10 * i) ⟨c,rfl,q2,by omega,by omega⟩ ?_) ?_
  ·intro i x hi ⟨c,x1,x2,x3,x4⟩
   subst x1
   refine Kdn ⟨.mk 2 [] [] zA [c],mk_t 2 [] [] zA [c],.mk (by simp) (by simp[zA]) (fun y hy=>by rw[List.mem_singleton.1 hy];exact x2),?_,?_⟩
   ·simp only[CC.dp,CC.dps];omega
   ·simp only[CC.tw,CC.tws,List.isEmpty_cons,Bool.false_eq_true,if_false];omega
  ·intro x ⟨c,x1,x2,x3,x4⟩
   exact⟨c,x1,x2,by omega,by omega⟩
theorem Ktj{l:List Int}(hl:l.length≤9223372036854775807){b:Int}{s:Lcu}(h:At l 0 b s)(h0:0≤b)(h1:b<1000000000000000000){k:Nat}(hk:100<k) :
  Ok (Ldl k s 1) fun r=>SC l (b+1000) r.2 r.1:=by
 have hBD:BD 1≤100:=by decide
 have hBW:BW 1≤1000:=by decide
 refine Kdq (Kca hl 1 k b s (by omega) (by omega) h0 (by omega) h) fun r ⟨c,c1,c2,c3,c4,c5⟩=>⟨c,c1,Kth c2,by omega,by omega,c5.up (by omega) (by omega)⟩
theorem Ktk{k:Nat}(hk:60000<k){n:Str}(hn:n.length≤1000){c:CC}(h1:c.Gd)(h2:c.dp≤40)(h3:c.tw≤20000):PcS k (n,c):=⟨hn,h1,by simp only;omega,by have:=Kte c;simp only;omega⟩
end Go.Gk
