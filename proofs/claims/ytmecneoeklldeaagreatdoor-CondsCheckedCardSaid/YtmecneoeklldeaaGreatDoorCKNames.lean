import Derived.Test.YtmecneoeklldeaaGreatDoorCKGood
import Derived.Test.YtmecneoeklldeaaGreatDoorCKComp
import Derived.Test.YtmecneoeklldeaaGreatDoorPMap
set_option linter.all false
set_option maxRecDepth 100000
namespace Go.Gk
mutual
def CC.lf:CC→List CC
 | .mk k n o v l=>if k=1 then[.mk k n o v l] else CC.lfs l
def CC.lfs:List CC→List CC
 | []=>[]
 | c :: r=>c.lf++CC.lfs r
end
theorem Kbx:∀ (N k:Nat) (c:CC),c.OK→c.dp≤N→N<k→c.lf.length≤1000000→Kww k c.t=some (c.lf.map CC.t)
 | N,0,c,_,_,h,_=>by omega
 | 0,k,c,_,h,_,_=>by cases c;simp[CC.dp] at h
 | N+1,k+1,c,hc,hd,hk,hl=>by
  have loop:∀ (L:List CC) (i:Nat) (acc:List CC),(∀ x∈L,x.lf.length≤1000000→Kww k x.t=some (x.lf.map CC.t))→acc.length+(CC.lfs L).length≤1000000→
    rangeF (σ:=List Kur) (fun i5 x7 s6=>bi (Kww k x7) fun y16=>bi (apd s6 y16) fun y18=>some y18) i (L.map CC.t) (acc.map CC.t)=some ((acc++CC.lfs L).map CC.t):=by
   intro L
   induction L with
   | nil=>intro i acc _ _;simp[rangeF,CC.lfs]
   | cons x L ih=>
    intro i acc hx hlen
    simp only[CC.lfs,List.length_append] at hlen
    simp only[List.map_cons,rangeF]
    rw[hx x mCs (by omega),bi_some,Ktx (by simp;omega),bi_some,bi_some,←List.map_append]
    rw[ih (i+1) (acc++x.lf) (fun y hy=>hx y (mCo _ hy)) (by simp;omega)]
    simp[CC.lfs]
  cases hc with
  | @leaf nm op va _ _ _=>
   simp only[Kww,show(CC.mk 1 nm op va []).t.Kind=1 from rfl,beq_self_eq_true,cond_true,CC.lf,if_true,List.map_cons,List.map_nil]
  | @neg nm op va x hx=>
   simp only[CC.dp,CC.dps] at hd
   simp only[Kww,show(CC.mk 2 nm op va [x]).t.Kind=2 from rfl,show((2:Int)==1)=false from rfl,cond_false]
   rw[Kab,bi_some]
   simp only[CC.kids]
   have e:(CC.mk 2 nm op va [x]).lf=CC.lfs [x]:=by simp only[CC.lf];rw[if_neg (by decide)]
   rw[e] at hl ⊢
   have:=loop [x] 0 [] (fun y hy hyl=>by rw[List.mem_singleton.1 hy] at hyl ⊢;exact Kbx N k x hx (by omega) (by omega) hyl) (by simpa using hl)
   rw[List.map_nil,List.nil_append] at this
   rw[this,bi_some]
  | @grp K nm op va L hK hL hx=>
   simp only[CC.dp] at hd
   have e1:K≠1:=by omega
   simp only[Kww,show(CC.mk K nm op va L).t.Kind=K from rfl,show((K:Int)==1)=false by simpa using e1,cond_false]
   rw[Kab,bi_some]
   simp only[CC.kids]
   have e:(CC.mk K nm op va L).lf=CC.lfs L:=by simp only[CC.lf];rw[if_neg e1]
   rw[e] at hl ⊢
   have:=loop L 0 [] (fun y hy hyl=>Kbx N k y (hx y hy) (by have:=Kac L y hy;omega) (by omega) hyl) (by simpa using hl)
   rw[List.map_nil,List.nil_append] at this
   rw[this,bi_some]
abbrev putN(m:List (Str×Bool))(c:CC):List (Str×Bool):=mSet m c.t.Name true
theorem Kby:∀ (N k:Nat) (c:CC) (out:List (Str×Bool)),c.OK→c.dp≤N→N<k→Kwd k out c.t=some (c.lf.foldl putN out)
 | N,0,c,_,_,_,h=>by omega
 | 0,k,c,_,_,h,_=>by cases c;simp[CC.dp] at h
 | N+1,k+1,c,out,hc,hd,hk=>by
  have loop:∀ (L:List CC) (i:Nat) (acc:List (Str×Bool)),(∀ x∈L,∀ o,Kwd k o x.t=some (x.lf.foldl putN o))→
    rangeF (σ:=List (Str×Bool)) (fun i7 x9 s8=>bi (Kwd k s8 x9) fun y18=>some y18) i (L.map CC.t) acc=some ((CC.lfs L).foldl putN acc):=by
   intro L
   induction L with
   | nil=>intro i acc _;simp[rangeF,CC.lfs]
   | cons x L ih=>
    intro i acc hx
    simp only[List.map_cons,rangeF]
    rw[hx x mCs,bi_some,bi_some,ih (i+1) _ fun y hy=>hx y (mCo _ hy)]
    simp only[CC.lfs,List.foldl_append]
  cases hc with
  | @leaf nm op va _ _ _=>
   simp only[Kwd,show(CC.mk 1 nm op va []).t.Kind=1 from rfl,beq_self_eq_true,cond_true,CC.lf,if_true,bi_some]
   rw[Kab,bi_some]
   rfl
  | @neg nm op va x hx=>
   simp only[CC.dp,CC.dps] at hd
   simp only[Kwd,show(CC.mk 2 nm op va [x]).t.Kind=2 from rfl,show((2:Int)==1)=false from rfl,cond_false,bi_some]
   rw[Kab,bi_some]
   simp only[CC.kids]
   have e:(CC.mk 2 nm op va [x]).lf=CC.lfs [x]:=by simp only[CC.lf];rw[if_neg (by decide)]
   rw[e,loop [x] 0 out (fun y hy o=>by rw[List.mem_singleton.1 hy];exact Kby N k x o hx (by omega) (by omega)),bi_some]
  | @grp K nm op va L hK hL hx=>
   simp only[CC.dp] at hd
   have e1:K≠1:=by omega
   simp only[Kwd,show(CC.mk K nm op va L).t.Kind=K from rfl,show((K:Int)==1)=false by simpa using e1,cond_false,bi_some]
   rw[Kab,bi_some]
   simp only[CC.kids]
   have e:(CC.mk K nm op va L).lf=CC.lfs L:=by simp only[CC.lf];rw[if_neg e1]
   rw[e,loop L 0 out (fun y hy o=>Kby N k y o (hx y hy) (by have:=Kac L y hy;omega) (by omega)),bi_some]
mutual
theorem Kbz:∀ c:CC,c.lf.length≤c.tw
 | .mk k n o v l=>by
  simp only[CC.lf,CC.tw]
  have h:=Kca l
  split
  ·cases l with
   | nil=>simp[CC.tws]
   | cons c r=>simp only[CC.tws,List.length_singleton];omega
  omega
theorem Kca:∀ l:List CC,(CC.lfs l).length≤CC.tws l
 | []=>by simp[CC.lfs]
 | c :: r=>by
  have h1:=Kbz c
  have h2:=Kca r
  simp only[CC.lfs,CC.tws,List.length_append]
  omega
end
theorem Kcb:∀ (n:Nat) (c:CC),c.OK→c.dp≤n→∀ x∈c.lf,x.t.Name.length≤40
 | 0,c,_,h,_,_=>by cases c;simp[CC.dp] at h
 | n+1,c,hc,hd,x,hx=>by
  have key:∀ L:List CC,(∀ y∈L,∀ x∈y.lf,x.t.Name.length≤40)→∀ x∈CC.lfs L,x.t.Name.length≤40:=fun L h=>by
   induction L with
   | nil=>intro x hx;simp[CC.lfs] at hx
   | cons y L ih=>
    intro x hx
    simp only[CC.lfs,List.mem_append] at hx
    rcases hx with hx | hx
    ·exact h y mCs x hx
    exact ih (fun z hz=>h z (mCo _ hz)) x hx
  cases hc with
  | @leaf nm op va h1 _ _=>
   simp only[CC.lf,if_true,List.mem_singleton] at hx
   subst hx
   exact h1
  | @neg nm op va y hy=>
   simp only[CC.dp,CC.dps] at hd
   have e:(CC.mk 2 nm op va [y]).lf=CC.lfs [y]:=by simp only[CC.lf];rw[if_neg (by decide)]
   rw[e] at hx
   exact key [y] (fun z hz=>by rw[List.mem_singleton.1 hz];exact Kcb n y hy (by omega)) x hx
  | @grp K nm op va L hK hL hy=>
   simp only[CC.dp] at hd
   have e1:K≠1:=by omega
   have e:(CC.mk K nm op va L).lf=CC.lfs L:=by simp only[CC.lf];rw[if_neg e1]
   rw[e] at hx
   exact key L (fun z hz=>Kcb n z (hy z hz) (by have:=Kac L z hz;omega)) x hx
theorem Kcc:∀ (L:List CC) (m:List (Str×Bool)),SM m→SM (L.foldl putN m)∧∀ k,k∈(L.foldl putN m).map (·.1) ↔ k∈m.map (·.1)∨k∈L.map fun c=>c.t.Name
 | [],m,h=>⟨h,fun k=>by simp⟩
 | c :: L,m,h=>by
  obtain⟨h1,h2⟩:=Kcc L (putN m c) (h.set _ _)
  refine⟨h1,fun k=>?_⟩
  simp only[List.foldl_cons]
  rw[h2 k]
  have hk:∀ (m:List (Str×Bool)) (k:Str),k∈m.map (·.1) ↔ mGet m k≠none:=fun m k=>by
   rw[Ne,Krj,List.mem_map]
   constructor
   ·rintro⟨e,he,rfl⟩ hn
    exact hn e he rfl
   intro hn
   refine Classical.byContradiction fun hc=>hn fun e he hek=>hc ⟨e,he,hek⟩
  rw[hk,hk,Kro,List.map_cons,List.mem_cons]
  by_cases e:k=c.t.Name
  ·subst e;simp
  rw[if_neg (by simpa using e)]
  simp[e]
theorem Kcd(m:List (Str×Bool))(h:SM m)(l:List Str)(hm:∀ k,k∈m.map (·.1) ↔ k∈l):sortK m=rise l:=by
 refine Kbk ?_ (Kbm l) fun x=>?_
 ·unfold sortK
  have h1:=Kbl (m.map (·.1))
  have h2:((m.map (·.1)).mergeSort fun x y=>decide (x≤y)).Nodup:=by
   refine(List.mergeSort_perm _ _).nodup_iff.2 ?_
   refine List.pairwise_map.2 (h.imp fun hl=>Krg hl)
  exact List.Pairwise.and h1 h2
 unfold sortK
 rw[List.mem_mergeSort,hm,Kbn]
def AtS(a:Kuq):Prop:=a.Words.length≤40000
theorem Kce{l:List Int}{b:Int}{s:Kup}(h:At l 0 b s)(n:Int)(hl:l.length≤9223372036854775807)(h1:b<4000000000000000000)(hn:1≤n)(hn2:n≤4611686018427387904) :
  Ok (Kuw s n) fun r=>0≤r.1∧r.1<n∧At l 0 (b+1) r.2:=by
 obtain⟨e1,e2,e3⟩:=h
 obtain⟨c,c0,c1,hc⟩:=Ktt l s.v_at n hl (by omega) (by omega) hn hn2
 rw[←e1] at hc
 exact⟨_,hc,c0,c1,e1,by simp only;omega,by simp only;omega⟩
theorem Kcf{l:List Int}{b:Int}{s:Kup}(h:At l 0 b s)(n:Int)(hl:l.length≤9223372036854775807)(h1:b<4000000000000000000)(hn:1≤n)(hn2:n≤4611686018427387904) :
  Ok (Kuy s n) fun r=>At l 0 (b+1) r.2:=Kdy (Ked h n hl (by omega) (by omega) hn hn2) fun r h=>h.up (by omega) (by omega)
theorem Kcg{l:List Int}{b:Int}{s:Kup}(h:At l 0 b s)(xs:List Int)(hl:l.length≤9223372036854775807)(h1:b<4000000000000000000)(hn:1≤xs.length)(hn2:xs.length≤1000) :
  Ok (Kux s xs) fun r=>r.1∈xs∧At l 0 (b+1) r.2:=Kdy (Kee h xs hl (by omega) (by omega) hn hn2) fun r h=>⟨h.1,h.2.up (by omega) (by omega)⟩
theorem Kch{l:List Int}{b:Int}{s:Kup}(h:At l 0 b s)(xs:List Str)(hl:l.length≤9223372036854775807)(h1:b<4000000000000000000)(hn:1≤xs.length)(hn2:xs.length≤1000) :
  Ok (Kuz s xs) fun r=>r.1∈xs∧At l 0 (b+1) r.2:=Kdy (Kef h xs hl (by omega) (by omega) hn hn2) fun r h=>⟨h.1,h.2.up (by omega) (by omega)⟩
theorem Kci:∃ w,Kqo [119] 101=some w∧w.length≤40000:=⟨_,rfl,by decide⟩
theorem Kcj{l:List Int}{b:Int}{s:Kup}(h:At l 0 b s)(hl:l.length≤9223372036854775807)(h1:b<3000000000000000000) :
  Ok (Kve s) fun r=>AtS r.1∧At l 0 (b+20) r.2:=by
 unfold Kve
 refine Kdw (Kcg h _ hl (by omega) (by simp) (by simp)) fun y1 ⟨_,t1⟩=>?_
 refine Kdw (P:=fun q=>AtS q.2∧At l 0 (b+3) q.1) ?_ fun q3 ⟨a3,t3⟩=>?_
 ·refine Kdz (fun _=>?_) (fun _=>Kdz (fun _=>?_) (fun _=>Kdz (fun _=>?_) (fun _=>?_)))
  ·refine Kdw (Kcg t1 _ hl (by omega) (by simp) (by simp)) fun y6 ⟨_,t6⟩=>Kdv ⟨by simp[AtS],t6.up (by omega) (by omega)⟩
  ·refine Kdw (Kch t1 _ hl (by omega) (by simp) (by simp)) fun y10 ⟨m10,t10⟩=>Kdv ⟨?_,t10.up (by omega) (by omega)⟩
   simp only[List.mem_cons,List.not_mem_nil,or_false] at m10
   rcases m10 with e | e | e | e | e<;>simp[AtS,e]
  ·refine Kdw (Kce t1 2 hl (by omega) (by omega) (by omega)) fun y14 ⟨_,_,t14⟩=>Kdv ⟨by simp[AtS],t14.up (by omega) (by omega)⟩
  ·refine Kdw (Kcg t1 _ hl (by omega) (by simp) (by simp)) fun y17 ⟨_,t17⟩=>?_
   refine Kdw (Kcg t17 _ hl (by omega) (by simp) (by simp)) fun y19 ⟨_,t19⟩=>Kdv ⟨by simp[AtS],t19.up (by omega) (by omega)⟩
 ·refine Kdw (Kcf t3 60 hl (by omega) (by omega) (by omega)) fun y21 t21=>?_
  refine Kdw (P:=fun q=>AtS q.2∧At l 0 (b+20) q.1) ?_ fun q23 ⟨a,t⟩=>Kdv ⟨a,t⟩
  refine Kdz (fun _=>?_) (fun _=>Kdv ⟨a3,t21.up (by omega) (by omega)⟩)
  refine Kdw (Keg t21 0 1 hl (by omega) (by omega) (by omega) (by omega) (by omega)) fun y26 t26=>?_
  obtain⟨w,hw,hwl⟩:=Kci
  refine Kdx hw ?_
  refine Kdw (Kch t26 _ hl (by omega) (by simp) (by simp)) fun y30 ⟨m30,t30⟩=>Kdv ⟨?_,t30.up (by omega) (by omega)⟩
  simp only[List.mem_cons,List.not_mem_nil,or_false] at m30
  rcases m30 with e | e | e | e<;>simp[AtS,e,hwl]
theorem Kck{v:Kuq}(h:RV v):v.Words.length≤1000:=by
 cases h with
 | num n h=>simp
 | bool n h=>simp
 | ver n h=>simp
 | words w h=>
  simp only[List.mem_cons,List.not_mem_nil,or_false] at h
  rcases h with rfl | rfl | rfl<;>simp
theorem Kcl{c:CC}(h:RC c):c.Gd:=by
 induction h with
 | leaf hn ho hv=>exact .mk (by omega) (by have:=Kck hv;omega) (by simp)
 | node hk hl h ih=>exact .mk (by simp) (by simp[zA]) ih
def SC(l:List Int)(b:Int)(s:Kup)(x:Kur):Prop:=∃ c:CC,x=c.t∧c.Gd∧c.dp≤40∧c.tw≤20000∧At l 0 b s
theorem mk_t(k:Int)(n o:Str)(v:Kuq)(L:List CC):(⟨k,n,o,v,pk Kus (L.map CC.t)⟩:Kur)=(CC.mk k n o v L).t:=by
 simp only[CC.t,Kaa]
theorem hll(z:List CC):z.length≤CC.tws z:=by
 induction z with
 | nil=>simp
 | cons c r ih=>simp only[List.length_cons,CC.tws];omega
theorem Kcm{l:List Int}(hl:l.length≤9223372036854775807){b:Int}{s:Kup}(h:At l 0 b s)(h0:0≤b)(h1:b<1000000000000000000){k:Nat}(hk:100<k) :
  Ok (Kvg k s) fun r=>SC l (b+1000) r.2 r.1:=by
 unfold Kvg
 refine Kdw (Kcg h _ hl (by omega) (by simp) (by simp)) fun y1 ⟨m1,t1⟩=>?_
 have hm:∃ m:Nat,m≤2∧y1.1=(m:Int):=by
  simp only[List.mem_cons,List.not_mem_nil,or_false] at m1
  rcases m1 with e | e | e | e
  ·exact⟨0,by omega,e⟩
  ·exact⟨1,by omega,e⟩
  ·exact⟨2,by omega,e⟩
  ·exact⟨2,by omega,e⟩
 obtain⟨m,hm2,hme⟩:=hm
 have hBD1:BD 1≤100:=by decide
 have hBW1:BW 1≤1000:=by decide
 have hBD:BD m≤170:=by
  have:∀ m≤2,BD m≤170:=by decide
  exact this m hm2
 have hBW:BW m≤1000:=by
  have:∀ m≤2,BW m≤1000:=by decide
  exact this m hm2
 rw[hme]
 refine Kdw (Kbg hl m k (b+1) y1.2 (by omega) (by omega) (by omega) (by omega) (t1.up (by omega) (by omega))) fun y3 ⟨c,c1,c2,c3,c4,c5⟩=>?_
 have hg:=Kcl c2
 obtain⟨y3a,y3b⟩:=y3
 simp only at c1 c5
 subst c1
 refine Kdw (Kcf c5 12 hl (by omega) (by omega) (by omega)) fun y5 t5=>?_
 refine Kdw (P:=fun q:Kup×Kur=>∃ c:CC,q.2=c.t∧c.Gd∧c.dp≤5∧c.tw≤10000∧At l 0 (b+600) q.1) ?_ fun q7 ⟨c,q1,q2,q3,q4,q5⟩=>?_
 ·cases c with
  | mk K nm op va L=>
   cases hg with
   | mk g1 g2 g3=>
    refine Kdz (fun _=>?_) (fun _=>Kdv ⟨_,rfl,.mk g1 g2 g3,by omega,by omega,t5.up (by omega) (by omega)⟩)
    refine Kdw (Kce t5 6 hl (by omega) (by omega) (by omega)) fun y10 ⟨_,_,t10⟩=>?_
    refine Kdz (fun _=>?_) (fun _=>Kdz (fun _=>?_) (fun _=>Kdz (fun _=>?_) (fun _=>Kdz (fun _=>?_) (fun _=>Kdz (fun _=>?_) (fun _=>?_)))))
    ·refine Kdw (Kch t10 _ hl (by omega) (by simp) (by simp)) fun y13 ⟨m13,t13⟩=>Kdv ⟨.mk K y13.1 op va L,rfl,.mk ?_ g2 g3,by simp only[CC.dp] at c3 ⊢;omega,by simp only[CC.tw] at c4 ⊢;omega,t13.up (by omega) (by omega)⟩
     simp only[List.mem_cons,List.not_mem_nil,or_false] at m13
     rcases m13 with e | e | e | e | e | e<;>simp[e]
    ·refine Kdw (Kch t10 _ hl (by omega) (by simp) (by simp)) fun y17 ⟨_,t17⟩=>Kdv ⟨.mk K nm y17.1 va L,rfl,.mk g1 g2 g3,by simp only[CC.dp] at c3 ⊢;omega,by simp only[CC.tw] at c4 ⊢;omega,t17.up (by omega) (by omega)⟩
    ·refine Kdw (Kcj t10 hl (by omega)) fun y21 ⟨a21,t21⟩=>Kdv ⟨.mk K nm op y21.1 L,rfl,.mk g1 (by unfold AtS at a21;omega) g3,by simp only[CC.dp] at c3 ⊢;omega,by simp only[CC.tw] at c4 ⊢;omega,t21.up (by omega) (by omega)⟩
    ·refine Kdw (Keg t10 1 4 hl (by omega) (by omega) (by omega) (by omega) (by omega)) fun y25 t25=>Kdv ⟨.mk y25.1 nm op va L,rfl,.mk g1 g2 g3,by simp only[CC.dp] at c3 ⊢;omega,by simp only[CC.tw] at c4 ⊢;omega,t25.up (by omega) (by omega)⟩
    ·have hLl:=hll L
     rw[Kab,bi_some]
     unfold Kvf
     simp only[CC.kids]
     simp only[CC.tw] at c4
     rw[Ktx (by simp;omega),bi_some,bi_some,List.nil_append]
     refine Kdw (Kbg hl 1 k (b+450) y10.2 (by omega) (by omega) (by omega) (by omega) (t10.up (by omega) (by omega))) fun y33 ⟨c',d1,d2,d3,d4,d5⟩=>?_
     rw[d1,Ktx (by simp;omega),bi_some,show([c'.t]:List Kur)=[c'].map CC.t from rfl,←List.map_append]
     refine Kdv ⟨.mk K nm op va (L++[c']),mk_t K nm op va _,.mk g1 g2 fun x hx=>(List.mem_append.1 hx).elim (g3 x) fun h=>by rw[List.mem_singleton.1 h];exact Kcl d2,?_,?_,d5.up (by omega) (by omega)⟩
     ·simp only[CC.dp,Kax,CC.dps] at c3 ⊢
      omega
     ·have:BW 1≤1000:=by decide
      simp only[CC.tw,Kaw,CC.tws]
      split<;>omega
    ·refine Kdw (Kcg t10 _ hl (by omega) (by simp) (by simp)) fun y38 ⟨_,t38⟩=>Kdv ⟨.mk y38.1 [] [] zA [.mk K nm op va L,.mk K nm op va L],mk_t y38.1 [] [] zA [.mk K nm op va L,.mk K nm op va L],.mk (by simp) (by simp[zA]) fun x hx=>?_,?_,?_,t38.up (by omega) (by omega)⟩
     ·simp only[List.mem_cons,List.not_mem_nil,or_false,or_self] at hx
      subst hx
      exact .mk g1 g2 g3
     ·simp only[CC.dp,CC.dps] at c3 ⊢
      omega
     ·simp only[CC.tw,CC.tws] at c4 ⊢
      simp only[List.isEmpty_cons,Bool.false_eq_true,if_false]
      omega
 ·refine Kdw (Kcf q5 40 hl (by omega) (by omega) (by omega)) fun y41 t41=>?_
  refine Kdw (P:=fun q:Kup×Kur=>SC l (b+1000) q.1 q.2) ?_ fun q43 hq=>Kdv hq
  refine Kdz (fun _=>?_) (fun _=>Kdv ⟨c,q1,q2,by omega,by omega,t41.up (by omega) (by omega)⟩)
  refine Kdw (Kcg t41 _ hl (by omega) (by simp) (by simp)) fun y46 ⟨m46,t46⟩=>?_
  have h46:28≤y46.1∧y46.1≤30:=by
   simp only[List.mem_cons,List.not_mem_nil,or_false] at m46
   omega
  refine Kdw (P:=fun x:Kur=>∃ c:CC,x=c.t∧c.Gd∧c.dp≤40∧c.tw≤20000) ?_ fun x ⟨c,x1,x2,x3,x4⟩=>Kdv ⟨c,x1,x2,x3,x4,t46.up (by omega) (by omega)⟩
  refine Kea (dT (by omega)) ?_
  rw[q1]
  refine Kdy (Keb (fun i (x:Kur)=>∃ c:CC,x=c.t∧c.Gd∧c.dp≤5+i∧c.tw≤10000+10 * i) ⟨c,rfl,q2,by omega,by omega⟩ ?_) ?_
  ·intro i x hi ⟨c,x1,x2,x3,x4⟩
   subst x1
   refine Kdv ⟨.mk 2 [] [] zA [c],mk_t 2 [] [] zA [c],.mk (by simp) (by simp[zA]) (fun y hy=>by rw[List.mem_singleton.1 hy];exact x2),?_,?_⟩
   ·simp only[CC.dp,CC.dps];omega
   ·simp only[CC.tw,CC.tws,List.isEmpty_cons,Bool.false_eq_true,if_false];omega
  ·intro x ⟨c,x1,x2,x3,x4⟩
   exact⟨c,x1,x2,by omega,by omega⟩
end Go.Gk
