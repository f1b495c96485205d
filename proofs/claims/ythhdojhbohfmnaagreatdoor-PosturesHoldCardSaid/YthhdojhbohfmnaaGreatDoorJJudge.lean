import Derived.Test.YthhdojhbohfmnaaGreatDoorJCond
set_option linter.all false
set_option maxRecDepth 100000
namespace Go.Gk
theorem Krm:∀ l:List Int,ltB l l=false
 | []=>rfl
 | a :: r=>by simp[ltB,Krm r]
theorem Krn(b:List Int):∀ (l b' pre:List Int),b=pre++b'→l.length=b'.length→
  ∃ r:LS Unit Int,rangeM (σ:=Unit) (ρ:=Int) (fun i1 x4 s3=>bif decide (((i1:Int):Int)≥(b.length:Int)) then(bi (some 1) fun v=>some (.out v)) else(bi (getZ b (i1:Int)) fun x17=>bi (Kzz x4 x17) fun y19=>bif (y19:Int) != 0 then(bi (some y19) fun v=>some (.out v)) else(some (.go ())))) pre.length l ()=some r∧
   match r with | .go _=>l=b' | .out y=>decide (y<0)=ltB l b'
 | [],[],pre,_,_=>⟨.go (),rfl,rfl⟩
 | [],_ :: _,_,_,h=>by simp at h
 | _ :: _,[],_,_,h=>by simp at h
 | x :: l,c :: b',pre,hb,hl=>by
  have hc:b[pre.length]?=some c:=by rw[hb];simp
  have hlt:=(gEs.1 hc).1
  simp only[rangeM]
  rw[dF (show ¬ (pre.length:Int)≥(b.length:Int) by omega),cond_false,Kxk hc,bi_some,Lij,bi_some]
  unfold cI
  by_cases h1:x<c
  ·rw[if_pos h1]
   refine⟨.out (-1),rfl,?_⟩
   simp[ltB,h1]
  ·rw[if_neg h1]
   by_cases h2:x>c
   ·rw[if_pos h2]
    refine⟨.out 1,rfl,?_⟩
    simp only[ltB]
    rw[dF h1,dF (show ¬ x=c by omega)]
    rfl
   ·rw[if_neg h2]
    have e:x=c:=by omega
    subst e
    obtain⟨r,h3,h4⟩:=Krn b l b' (pre++[x]) (by simp[hb]) (by simpa using hl)
    rw[List.length_append,List.length_singleton] at h3
    refine⟨r,h3,?_⟩
    cases r with
    | go u=>simp only at h4 ⊢;rw[h4]
    | out y=>
     simp only at h4 ⊢
     rw[h4]
     simp[ltB]
theorem Kro{a b:List Int}(h:a.length=b.length):∃ y,Lan a b=some y∧decide (y<0)=ltB a b:=by
 obtain⟨r,h1,h2⟩:=Krn b a b [] rfl h
 rw[List.length_nil] at h1
 unfold Lan
 rw[h1,bi_some]
 cases r with
 | go u=>
  simp only at h2
  subst h2
  refine⟨0,?_,by rw[Krm];rfl⟩
  simp[goI]
 | out y=>exact⟨y,rfl,h2⟩
theorem or2(x y:Int):Laa [x,y]=some (if x≠0 then x else y):=by
 unfold Laa
 simp only[rangeM,bi_some]
 by_cases hx:x=0
 ·subst hx
  by_cases hy:y=0
  ·subst hy;rfl
  rw[show((0:Int) != 0)=false from rfl,show((y:Int) != 0)=true by simpa using hy]
  simp
 rw[show((x:Int) != 0)=true by simpa using hx]
 simp[hx]
theorem Krp(a b:List Int):Laq a b=some (shB a b):=by
 unfold Laq shB
 rw[Lij,bi_some]
 unfold cI
 by_cases h1:(a.length:Int)<(b.length:Int)
 ·obtain⟨y,hy⟩:=Kwf a b
  rw[if_pos h1,hy,bi_some,or2,bi_some,dT (show a.length<b.length by omega)]
  rfl
 rw[if_neg h1,dF (show ¬ a.length<b.length by omega)]
 by_cases h2:(a.length:Int)>(b.length:Int)
 ·obtain⟨y,hy⟩:=Kwf a b
  rw[if_pos h2,hy,bi_some,or2,bi_some,dF (show ¬ a.length=b.length by omega)]
  rfl
 obtain⟨y,hy,h3⟩:=Kro (a:=a) (b:=b) (by omega)
 rw[if_neg h2,hy,bi_some,or2,bi_some,dT (show a.length=b.length by omega),Bool.false_or,Bool.true_and,←h3]
 rfl
theorem Krq(st:Int)(acc v:Int×List Int):(stp st acc v).2.length≤acc.2.length+v.2.length:=by
 unfold stp
 split
 ·split<;>omega
 split
 ·omega
 split
 ·simp
 simp
mutual
theorem Krr:∀ (s:Sh) (n:Int) (ks:List Int),(s.pf n ks).length≤s.n
 | .leaf,n,ks=>by simp only[Sh.pf,Sh.n];split<;>simp
 | .neg s,n,ks=>by simp only[Sh.pf,Sh.n];exact Krr s n ks
 | .grp st l,n,ks=>by
  simp only[Sh.pf,Sh.n]
  have:=Krs st l n ks (1 - st,[])
  simpa using this
theorem Krs(st:Int):∀ (l:List Sh) (n:Int) (ks:List Int) (acc:Int×List Int),(Sh.pfs st l n ks acc).2.length≤acc.2.length+Sh.ns l
 | [],n,ks,acc=>by simp only[Sh.pfs,Sh.ns];omega
 | s :: r,n,ks,acc=>by
  simp only[Sh.pfs,Sh.ns]
  have h1:=Krs st r (n+s.n) (ks.drop s.n) (stp st acc (s.ev ks,s.pf n ks))
  have h2:=Krq st acc (s.ev ks,s.pf n ks)
  have h3:=Krr s n ks
  simp only at h2
  omega
end
def stepA(rc:Kye→Int→Option (Kyl×Int))(strong:Int)(x5:Kye)(s4:Int×Kyl):Option (Int×Kyl):=
 bi (rc x5 s4.1) fun y14=>bif (y14.1.is:Int)==strong then(bi (bif (s4.2.is:Int) != strong then(some true) else(bi (Laq y14.1.proof s4.2.proof) fun y21=>some y21)) fun q17=>bif q17 then(some (y14.2,y14.1)) else(some (y14.2,s4.2))) else(bif (s4.2.is:Int)==strong then(some (y14.2,s4.2)) else(bif (((y14.1.is:Int)==2)||((s4.2.is:Int)==2)) then(some (y14.2,(⟨2,[]⟩:Kyl))) else(bi (Lar s4.2.proof) fun y30=>bi (apd y30 y14.1.proof) fun y32=>some (y14.2,(⟨s4.2.is,y32⟩:Kyl)))))
theorem Krt(rc:Kyj→Kye→Str→Int→Int→Option (Kyl×Int))(v_r:Kyj)(c:Kye)(node:Str)(v_at n weak strong:Int) :
  Las rc v_r c node v_at n weak strong=bi (unK d_api_Cond 11 c.Kids) fun l1=>bi (rangeF (σ:=Int×Kyl) (fun i3 x5 s4=>stepA (fun c n=>rc v_r c node v_at n) strong x5 s4) 0 l1 (n,(⟨weak,[]⟩:Kyl))) fun q6=>some (q6.2,q6.1):=rfl
theorem Kru{rc:Kye→Int→Option (Kyl×Int)}{st:Int}{x:Kye}{n n' a v:Int}{p q:List Int}(h:rc x n=some (⟨v,q⟩,n'))(hb:p.length+q.length≤4000000) :
  stepA rc st x (n,⟨a,p⟩)=some (n',⟨(stp st (a,p) (v,q)).1,(stp st (a,p) (v,q)).2⟩):=by
 unfold stepA stp
 simp only[h,bi_some]
 by_cases h1:v=st
 ·rw[if_pos h1,show((v:Int)==st)=true by simpa using h1,cond_true]
  by_cases h2:a=st
  ·rw[show((a:Int) != st)=false by simpa using h2,cond_false,Krp,bi_some,bi_some]
   cases hs:shB q p with
   | true=>rw[if_pos (.inr rfl)];rfl
   | false=>rw[if_neg (fun q=>q.elim (fun e=>e h2) (fun e=>by cases e))];rfl
  ·rw[show((a:Int) != st)=true by simpa using h2,cond_true,bi_some,cond_true,if_pos (.inl h2)]
 ·rw[if_neg h1,show((v:Int)==st)=false by simpa using h1,cond_false]
  by_cases h2:a=st
  ·rw[if_pos h2,show((a:Int)==st)=true by simpa using h2,cond_true]
  ·rw[if_neg h2,show((a:Int)==st)=false by simpa using h2,cond_false]
   by_cases h3:v=2∨a=2
   ·rw[if_pos h3,show(((v:Int)==2)||((a:Int)==2))=true by simpa using h3,cond_true]
   ·rw[if_neg h3,show(((v:Int)==2)||((a:Int)==2))=false by simpa using h3,cond_false]
    unfold Lar
    rw[Kxb (by simp;omega),bi_some,bi_some,List.nil_append,Kxb (by omega),bi_some]
theorem Krv{rc:Kye→Int→Option (Kyl×Int)}{f:CC→Int}(st:Int):∀ (L:List CC) (i:Nat) (n a:Int) (p t:List Int),
  (∀ x∈L,x.WF)→(∀ x∈L,∀ (n:Int) (t:List Int),0≤n→n+x.sh.n≤1000000→rc x.t n=some (⟨x.sh.ev (x.lf.map f++t),x.sh.pf n (x.lf.map f++t)⟩,n+x.sh.n))→
  0≤n→n+Sh.ns (CC.shs L)≤1000000→p.length+Sh.ns (CC.shs L)≤1000000→
  rangeF (σ:=Int×Kyl) (fun i3 x5 s4=>stepA rc st x5 s4) i (L.map CC.t) (n,⟨a,p⟩) =
   some (n+Sh.ns (CC.shs L),⟨(Sh.pfs st (CC.shs L) n ((CC.lfs L).map f++t) (a,p)).1,(Sh.pfs st (CC.shs L) n ((CC.lfs L).map f++t) (a,p)).2⟩)
 | [],i,n,a,p,t,_,_,_,_,_=>by simp[rangeF,CC.shs,Sh.ns,Sh.pfs]
 | x :: L,i,n,a,p,t,hw,hr,h0,h1,h2=>by
  simp only[CC.shs,Sh.ns,CC.lfs,List.map_append,List.append_assoc,Sh.pfs,List.map_cons,rangeF] at h1 h2 ⊢
  have hx:=hr x mCs n ((CC.lfs L).map f++t) h0 (by omega)
  have hpl:=Krr x.sh n (x.lf.map f++((CC.lfs L).map f++t))
  rw[Kru hx (by omega),bi_some]
  have hd:(x.lf.map f++((CC.lfs L).map f++t)).drop x.sh.n=(CC.lfs L).map f++t:=List.drop_left' (by rw[List.length_map,(sh_n (hw x mCs)).1])
  have hsl:=Krq st (a,p) (x.sh.ev (x.lf.map f++((CC.lfs L).map f++t)),x.sh.pf n (x.lf.map f++((CC.lfs L).map f++t)))
  simp only at hsl
  rw[Krv st L (i+1) (n+x.sh.n) _ _ t (fun y hy=>hw y (mCo _ hy)) (fun y hy=>hr y (mCo _ hy)) (by omega) (by omega) (by omega),hd]
  congr 2
  omega
theorem Krw{m:List (Kyi×(Tl Kyh))}{al:List Bool}{l:List Kyh}(hI:InvR al m l)(hl:l.length≤900)(fresh:Int)(node:Str)(v:Int):∀ (N k:Nat) (c:CC) (n:Int) (t:List Int),
  c.WF→c.dp≤N→N<k→0≤n→n+c.sh.n≤1000000→
  Lat k ⟨fresh,m⟩ c.t node v n=some (⟨c.sh.ev (c.lf.map (lv l fresh node v)++t),c.sh.pf n (c.lf.map (lv l fresh node v)++t)⟩,n+c.sh.n)
 | 0,k,c,n,t,_,hd,_,_,_=>by cases c;simp[CC.dp] at hd
 | N+1,0,c,n,t,_,_,hk,_,_=>by omega
 | N+1,k+1,c,n,t,hw,hd,hk,h0,h1=>by
  have hu:=Kaw c
  cases hw with
  | @leaf nm op va ho=>
   simp only[CC.sh,if_true,Sh.n] at h1
   have hL:=(Kqt (fresh:=fresh) hI hl node v (c:=CC.mk 1 nm op va []) ho n).2.2
   simp only[Lat,show(CC.mk 1 nm op va []).t.Kind=1 from rfl,beq_self_eq_true,cond_true]
   rw[hL]
   simp only[CC.sh,if_true,CC.lf,List.map_cons,List.map_nil,List.cons_append,List.nil_append,Sh.ev,Sh.pf,Sh.n,List.headD_cons]
   rw[Kwv (by omega) (by omega)]
   rfl
  | @neg nm op va x hx=>
   simp only[CC.sh,CC.shs,List.headD_cons,show ¬ (2:Int)=1 by decide,if_false,if_true,Sh.n] at h1 ⊢
   have hj:=Krw hI hl fresh node v N k x n t hx (by have:=Kay (c:=CC.mk 2 nm op va [x]) (x:=x) mCs;omega) (by omega) h0 h1
   simp only[Lat,show(CC.mk 2 nm op va [x]).t.Kind=2 from rfl,show((2:Int)==1)=false from rfl,cond_false,beq_self_eq_true,cond_true]
   rw[hu,bi_some,show(CC.mk 2 nm op va [x]).kids.map CC.t=[x.t] from rfl,show getZ [x.t] 0=some x.t from rfl,bi_some,hj,bi_some]
   simp only[CC.lf,CC.lfs,List.append_nil,show ¬ (2:Int)=1 by decide,if_false,Sh.ev,Sh.pf]
   generalize x.sh.ev (x.lf.map (lv l fresh node v)++t)=z
   unfold neg3
   by_cases z1:z=1
   ·rw[show((z:Int)==1)=true by simpa using z1,if_pos z1];rfl
   ·rw[show((z:Int)==1)=false by simpa using z1,if_neg z1]
    by_cases z0:z=0
    ·rw[show((z:Int)==0)=true by simpa using z0,if_pos z0];rfl
    ·rw[show((z:Int)==0)=false by simpa using z0,if_neg z0];rfl
  | @grp K nm op va L hK hne hx=>
   have e1:¬ K=1:=by omega
   have e2:¬ K=2:=by omega
   simp only[CC.sh,if_neg e1,if_neg e2,Sh.n] at h1 ⊢
   simp only[CC.lf,if_neg e1,Sh.ev,Sh.pf]
   have hj:∀ x∈L,∀ (n:Int) (t:List Int),0≤n→n+x.sh.n≤1000000→(fun c n=>Lat k ⟨fresh,m⟩ c node v n) x.t n=some (⟨x.sh.ev (x.lf.map (lv l fresh node v)++t),x.sh.pf n (x.lf.map (lv l fresh node v)++t)⟩,n+x.sh.n):=
    fun x hm n t g0 g1=>Krw hI hl fresh node v N k x n t (hx x hm) (by have:=Kay (c:=CC.mk K nm op va L) (x:=x) hm;omega) (by omega) g0 g1
   simp only[Lat,show(CC.mk K nm op va L).t.Kind=K from rfl,show((K:Int)==1)=false by simpa using e1,show((K:Int)==2)=false by simpa using e2,cond_false]
   rw[Krt,Krt,hu,bi_some,bi_some,show(CC.mk K nm op va L).kids=L from rfl]
   rcases hK with rfl | rfl
   ·rw[Krv 0 L 0 n 1 [] t hx hj h0 h1 (by simp;omega),bi_some,bi_some]
    simp only[if_true,beq_self_eq_true,cond_true]
    have he:=Ktf (st:=0) (.inl rfl) (CC.shs L) n ((CC.lfs L).map (lv l fresh node v)++t)
    simp only[Sh.ev] at he
    rw[←he]
    rfl
   ·rw[Krv 1 L 0 n 0 [] t hx hj h0 h1 (by simp;omega),bi_some,bi_some]
    simp only[show ¬ (4:Int)=3 by decide,if_false,show((4:Int)==3)=false from rfl,cond_false]
    have he:=Ktf (st:=1) (.inr rfl) (CC.shs L) n ((CC.lfs L).map (lv l fresh node v)++t)
    simp only[Sh.ev] at he
    rw[←he]
    rfl
theorem Lif(l:List Int)(s:Int):Lcz l s=some (decide (s∈l)):=by
 have hd:decide (s∈l)=l.any fun x=>(s:Int)==x:=by
  rw[Bool.eq_iff_iff]
  simp
 unfold Lcz Lcy
 rcases Kbf (f:=fun i1 (x3:Int) s2=>bif (s:Int)==x3 then(bi (some (i1:Int)) fun v=>some (.out v)) else(some (.go ()))) (fun x=>(s:Int)==x) (fun i x=>by cases h:((s:Int)==x)<;>rfl) l 0 with⟨h1,h2⟩ | ⟨h1,v,h2,h3⟩
 ·rw[h2,hd,h1];rfl
 rw[h3,hd,h1]
 show some (decide (v≥0))=_
 rw[dT h2]
def in3(x:Int):Prop:=x=0∨x=1∨x=2
mutual
theorem ev_3:∀ (s:Sh) (ks:List Int),s.ok→(∀ x∈ks,in3 x)→in3 (s.ev ks)
 | .leaf,ks,_,h=>by
  simp only[Sh.ev]
  cases ks with
  | nil=>exact .inr (.inr rfl)
  | cons a r=>exact h a mCs
 | .neg s,ks,ho,h=>by
  simp only[Sh.ev]
  have:=ev_3 s ks (by simpa only[Sh.ok] using ho) h
  unfold neg3 in3 at *
  split
  ·exact .inl rfl
  split
  ·exact .inr (.inl rfl)
  exact this
 | .grp st l,ks,ho,h=>by
  simp only[Sh.ok] at ho
  simp only[Sh.ev,cmb]
  unfold in3
  split
  ·omega
  split
  ·omega
  omega
end
theorem Krx:∀ (N k:Nat) (c:CC),c.WF→c.dp≤N→N<k→c.sh.n≤1000000→Lbf k c.t=some (c.sh.n:Int)
 | 0,k,c,_,hd,_,_=>by cases c;simp[CC.dp] at hd
 | N+1,0,c,_,_,hk,_=>by omega
 | N+1,k+1,c,hw,hd,hk,hb=>by
  have hu:=Kaw c
  have loop:∀ (L:List CC) (i:Nat) (a:Nat),(∀ x∈L,x.sh.n≤1000000→Lbf k x.t=some (x.sh.n:Int))→a+Sh.ns (CC.shs L)≤1000000→rangeF (σ:=Int) (fun i7 x9 s8=>bi (Lbf k x9) fun y18=>some (wi (s8+y18))) i (L.map CC.t) (a:Int)=some ((a+Sh.ns (CC.shs L):Nat):Int):=by
   intro L
   induction L with
   | nil=>intro i a _ _;simp[rangeF,CC.shs,Sh.ns]
   | cons x L ih=>
    intro i a hx hb
    simp only[CC.shs,Sh.ns] at hb ⊢
    simp only[List.map_cons,rangeF]
    rw[hx x mCs (by omega),bi_some,bi_some,Kwv (by omega) (by omega)]
    have:=ih (i+1) (a+x.sh.n) (fun y hy=>hx y (mCo _ hy)) (by omega)
    rw[show((a:Int)+(x.sh.n:Int))=((a+x.sh.n:Nat):Int) by omega,this]
    congr 1
    omega
  cases hw with
  | @leaf nm op va ho=>
   simp only[Lbf,show(CC.mk 1 nm op va []).t.Kind=1 from rfl,beq_self_eq_true,cond_true,bi_some]
   rw[hu,bi_some]
   simp[CC.kids,rangeF,CC.sh,Sh.n]
  | @neg nm op va x hx=>
   simp only[CC.sh,CC.shs,List.headD_cons,show ¬ (2:Int)=1 by decide,if_false,if_true,Sh.n] at hb ⊢
   have hj:=Krx N k x hx (by have:=Kay (c:=CC.mk 2 nm op va [x]) (x:=x) mCs;omega) (by omega)
   simp only[Lbf,show(CC.mk 2 nm op va [x]).t.Kind=2 from rfl,show((2:Int)==1)=false from rfl,cond_false,bi_some]
   rw[hu,bi_some,show(CC.mk 2 nm op va [x]).kids=[x] from rfl]
   have:=loop [x] 0 0 (fun y hy=>by rw[List.mem_singleton.1 hy];exact hj) (by simp only[CC.shs,Sh.ns];omega)
   simp only[Int.ofNat_zero,CC.shs,Sh.ns,Nat.zero_add,Nat.add_zero] at this
   rw[this];rfl
  | @grp K nm op va L hK hne hx=>
   have e1:¬ K=1:=by omega
   have e2:¬ K=2:=by omega
   simp only[CC.sh,if_neg e1,if_neg e2,Sh.n] at hb ⊢
   simp only[Lbf,show(CC.mk K nm op va L).t.Kind=K from rfl,show((K:Int)==1)=false by simpa using e1,cond_false,bi_some]
   rw[hu,bi_some,show(CC.mk K nm op va L).kids=L from rfl]
   have:=loop L 0 0 (fun y hy=>Krx N k y (hx y hy) (by have:=Kay (c:=CC.mk K nm op va L) (x:=y) hy;omega) (by omega)) (by omega)
   rw[show((0:Nat):Int)=0 from rfl,Nat.zero_add] at this
   rw[this];rfl
theorem Kry(kn:List Int)(h3:∀ x∈kn,in3 x)(hkl:kn.length≤1000000):∀ (N k:Nat) (c:CC) (n:Nat),c.WF→c.dp≤N→N<k→n+c.sh.n≤kn.length→Lda k c.t kn (n:Int)=some (c.sh.ev (kn.drop n))
 | 0,k,c,n,_,hd,_,_=>by cases c;simp[CC.dp] at hd
 | N+1,0,c,n,_,_,hk,_=>by omega
 | N+1,k+1,c,n,hw,hd,hk,hb=>by
  have hu:=Kaw c
  have hin:∀ (s:Sh) (n:Nat),s.ok→in3 (s.ev (kn.drop n)):=fun s n ho=>ev_3 s _ ho fun x hx=>h3 x (List.mem_of_mem_drop hx)
  have loop:∀ (L:List CC) (i:Nat) (acc:List Int) (a:Nat),(∀ x∈L,x.WF)→(∀ x∈L,x.sh.n≤1000000→Lbf k x.t=some (x.sh.n:Int))→(∀ x∈L,∀ n,n+x.sh.n≤kn.length→Lda k x.t kn (n:Int)=some (x.sh.ev (kn.drop n)))→
    a+Sh.ns (CC.shs L)≤kn.length→acc.length+L.length≤4000000→
    rangeF (σ:=(List Int)×Int) (fun i7 x9 s8=>bi (Lda k x9 kn s8.2) fun y18=>bi (apd s8.1 [y18]) fun y20=>bi (Lbf k x9) fun y22=>some (y20,wi (s8.2+y22))) i (L.map CC.t) (acc,(a:Int))=some (acc++Sh.evs (CC.shs L) (kn.drop a),((a+Sh.ns (CC.shs L):Nat):Int)):=by
   intro L
   induction L with
   | nil=>intro i acc a _ _ _ _ _;simp[rangeF,CC.shs,Sh.ns,Sh.evs]
   | cons x L ih=>
    intro i acc a hw hlv hx hb hal
    simp only[CC.shs,Sh.ns,Sh.evs,List.length_cons] at hb hal ⊢
    simp only[List.map_cons,rangeF]
    rw[hx x mCs a (by omega),bi_some,Kxb (by simp;omega),bi_some,hlv x mCs (by omega),bi_some,bi_some,Kwv (by omega) (by omega)]
    have:=ih (i+1) (acc++[x.sh.ev (kn.drop a)]) (a+x.sh.n) (fun y hy=>hw y (mCo _ hy)) (fun y hy=>hlv y (mCo _ hy)) (fun y hy=>hx y (mCo _ hy)) (by omega) (by simp;omega)
    rw[show((a:Int)+(x.sh.n:Int))=((a+x.sh.n:Nat):Int) by omega,this,List.drop_drop]
    simp only[List.append_assoc,List.cons_append,List.nil_append]
    congr 2
    omega
  cases hw with
  | @leaf nm op va ho=>
   simp only[CC.sh,if_true,Sh.n] at hb
   simp only[Lda,show(CC.mk 1 nm op va []).t.Kind=1 from rfl,beq_self_eq_true,cond_true,CC.sh,if_true,Sh.ev]
   have hx:kn[n]?=some kn[n]:=gGe (by omega)
   rw[Kxk hx,bi_some]
   congr 1
   rw[List.drop_eq_getElem_cons (by omega)]
   rfl
  | @neg nm op va x hx=>
   simp only[CC.sh,CC.shs,List.headD_cons,show ¬ (2:Int)=1 by decide,if_false,if_true,Sh.n] at hb ⊢
   have hdx:x.dp≤N:=by have:=Kay (c:=CC.mk 2 nm op va [x]) (x:=x) mCs;omega
   have hj:=fun n h=>Kry kn h3 hkl N k x n hx hdx (by omega) h
   have hlf:=Krx N k x hx hdx (by omega)
   simp only[Lda,show(CC.mk 2 nm op va [x]).t.Kind=2 from rfl,show((2:Int)==1)=false from rfl,cond_false]
   rw[hu,bi_some,show(CC.mk 2 nm op va [x]).kids=[x] from rfl,loop [x] 0 [] n (fun y hy=>by rw[List.mem_singleton.1 hy];exact hx) (fun y hy=>by rw[List.mem_singleton.1 hy];exact hlf) (fun y hy=>by rw[List.mem_singleton.1 hy];exact hj) (by simp only[CC.shs,Sh.ns];omega) (by simp)]
   simp only[bi_some,beq_self_eq_true,cond_true,List.nil_append,CC.shs,Sh.evs,Sh.ev]
   have hz:=hin x.sh n (Kqq hx)
   generalize x.sh.ev (kn.drop n)=z at hz
   rcases hz with rfl | rfl | rfl<;>rfl
  | @grp K nm op va L hK hne hx=>
   have e1:¬ K=1:=by omega
   have e2:¬ K=2:=by omega
   have hln:L.length≤Sh.ns (CC.shs L):=(Kqo L fun x hm=>sh_n (hx x hm)).2
   simp only[CC.sh,if_neg e1,if_neg e2,Sh.n] at hb ⊢
   have hdx:∀ x∈L,x.dp≤N:=fun x hm=>by have:=Kay (c:=CC.mk K nm op va L) (x:=x) hm;omega
   simp only[Lda,show(CC.mk K nm op va L).t.Kind=K from rfl,show((K:Int)==1)=false by simpa using e1,show((K:Int)==2)=false by simpa using e2,cond_false]
   rw[hu,bi_some,show(CC.mk K nm op va L).kids=L from rfl,loop L 0 [] n hx (fun x hm=>Krx N k x (hx x hm) (hdx x hm) (by omega)) (fun x hm n h=>Kry kn h3 hkl N k x n (hx x hm) (hdx x hm) (by omega) h) hb (by simp;omega)]
   simp only[bi_some,List.nil_append,Sh.ev,cmb,Lif]
   rcases hK with rfl | rfl
   ·rw[show((3:Int)==4)=false from rfl]
    simp only[cond_false,bi_some,orI_inl,if_true]
    by_cases g1:(0:Int)∈Sh.evs (CC.shs L) (kn.drop n)
    ·rw[dT g1,if_pos g1];rfl
    rw[dF g1,if_neg g1]
    by_cases g2:(2:Int)∈Sh.evs (CC.shs L) (kn.drop n)
    ·rw[dT g2,if_pos g2];rfl
    rw[dF g2,if_neg g2];rfl
   rw[show((4:Int)==4)=true from rfl]
   simp only[cond_true,bi_some,orI_inl,show ¬ (4:Int)=3 by decide,if_false]
   by_cases g1:(1:Int)∈Sh.evs (CC.shs L) (kn.drop n)
   ·rw[dT g1,if_pos g1];rfl
   rw[dF g1,if_neg g1]
   by_cases g2:(2:Int)∈Sh.evs (CC.shs L) (kn.drop n)
   ·rw[dT g2,if_pos g2];rfl
   rw[dF g2,if_neg g2];rfl
theorem Krz:∀ (N k:Nat) (c:CC),c.WF→c.dp≤N→N<k→c.lf.length≤1000000→Lct k c.t=some (c.lf.map CC.t)
 | 0,k,c,_,hd,_,_=>by cases c;simp[CC.dp] at hd
 | N+1,0,c,_,_,hk,_=>by omega
 | N+1,k+1,c,hw,hd,hk,hb=>by
  have hu:=Kaw c
  have loop:∀ (L:List CC) (i:Nat) (acc:List CC),(∀ x∈L,x.lf.length≤1000000→Lct k x.t=some (x.lf.map CC.t))→acc.length+(CC.lfs L).length≤1000000→
    rangeF (σ:=List Kye) (fun i5 x7 s6=>bi (Lct k x7) fun y16=>bi (apd s6 y16) fun y18=>some y18) i (L.map CC.t) (acc.map CC.t)=some ((acc++CC.lfs L).map CC.t):=by
   intro L
   induction L with
   | nil=>intro i acc _ _;simp[rangeF,CC.lfs]
   | cons x L ih=>
    intro i acc hx hb
    simp only[CC.lfs,List.length_append] at hb ⊢
    simp only[List.map_cons,rangeF]
    rw[hx x mCs (by omega),bi_some,Kxb (by simp;omega),bi_some,bi_some,←List.map_append]
    rw[ih (i+1) (acc++x.lf) (fun y hy=>hx y (mCo _ hy)) (by simp;omega),List.append_assoc]
  cases hw with
  | @leaf nm op va ho=>
   simp only[Lct,show(CC.mk 1 nm op va []).t.Kind=1 from rfl,beq_self_eq_true,cond_true,CC.lf,if_true,List.map_cons,List.map_nil]
  | @neg nm op va x hx=>
   simp only[CC.lf,CC.lfs,List.append_nil,show ¬ (2:Int)=1 by decide,if_false] at hb ⊢
   have hj:=Krz N k x hx (by have:=Kay (c:=CC.mk 2 nm op va [x]) (x:=x) mCs;omega) (by omega)
   simp only[Lct,show(CC.mk 2 nm op va [x]).t.Kind=2 from rfl,show((2:Int)==1)=false from rfl,cond_false]
   rw[hu,bi_some,show(CC.mk 2 nm op va [x]).kids=[x] from rfl]
   have:=loop [x] 0 [] (fun y hy=>by rw[List.mem_singleton.1 hy];exact hj) (by simp[CC.lfs];omega)
   rw[List.map_nil] at this
   rw[this]
   simp[CC.lfs]
  | @grp K nm op va L hK hne hx=>
   have e1:¬ K=1:=by omega
   simp only[CC.lf,if_neg e1] at hb ⊢
   simp only[Lct,show(CC.mk K nm op va L).t.Kind=K from rfl,show((K:Int)==1)=false by simpa using e1,cond_false]
   rw[hu,bi_some,show(CC.mk K nm op va L).kids=L from rfl]
   have:=loop L 0 [] (fun y hy=>Krz N k y (hx y hy) (by have:=Kay (c:=CC.mk K nm op va L) (x:=y) hy;omega) (by omega)) (by simpa using hb)
   rw[List.map_nil] at this
   rw[this]
   simp
theorem Ksa:∀ {c:CC},c.WF→∀ x∈c.lf,opsB x.t.Op=true:=by
 intro c h
 induction h with
 | @leaf nm op va ho=>intro x hx;simp only[CC.lf,if_true,List.mem_singleton] at hx;subst hx;exact ho
 | neg h ih=>intro x hx;simp only[CC.lf,CC.lfs,List.append_nil,show ¬ (2:Int)=1 by decide,if_false] at hx;exact ih x hx
 | @grp k n o v l hk hl h ih=>
  intro x hx
  simp only[CC.lf,if_neg (show ¬ k=1 by omega)] at hx
  have:∀ L:List CC,(∀ y∈L,y∈l)→x∈CC.lfs L→opsB x.t.Op=true:=by
   intro L
   induction L with
   | nil=>intro _ hx;simp[CC.lfs] at hx
   | cons y L ihL=>
    intro hs hx
    simp only[CC.lfs,List.mem_append] at hx
    rcases hx with hx | hx
    ·exact ih y (hs y mCs) x hx
    exact ihL (fun z hz=>hs z (mCo _ hz)) hx
  exact this l (fun y hy=>hy) hx
section
variable{m:List (Kyi×(Tl Kyh))}{al:List Bool}{l:List Kyh}(hI:InvR al m l)(hl:l.length≤900)(fresh:Int)
include hI hl
theorem Ksb(node:Str)(v:Int)(k:Nat)(c:CC)(hw:c.WF)(hk:c.dp<k)(hb:c.lf.length≤1000000):Lcx k c.t l fresh node v=some (c.lf.map (lv l fresh node v))∧∀ x∈c.lf.map (lv l fresh node v),in3 x:=by
 have h3:∀ x∈c.lf,in3 (lv l fresh node v x)∧Lcw x.t l fresh node v=some (lv l fresh node v x):=fun x hx=>by
  obtain⟨h1,h2,_⟩:=Kqt (fresh:=fresh) hI hl node v (Ksa hw x hx) 0
  exact⟨h1,h2⟩
 refine⟨?_,fun x hx=>by obtain⟨y,hy,rfl⟩:=List.mem_map.1 hx;exact(h3 y hy).1⟩
 unfold Lcx
 rw[Krz c.dp k c hw (Nat.le_refl _) hk hb,bi_some]
 have loop:∀ (L:List CC) (i:Nat) (acc:List Int),(∀ x∈L,Lcw x.t l fresh node v=some (lv l fresh node v x))→acc.length+L.length≤1000000→
   rangeF (σ:=List Int) (fun i3 x5 s4=>bi (Lcw x5 l fresh node v) fun y14=>bi (apd s4 [y14]) fun y16=>some y16) i (L.map CC.t) acc=some (acc++L.map (lv l fresh node v)):=by
  intro L
  induction L with
  | nil=>intro i acc _ _;simp[rangeF]
  | cons x L ih=>
   intro i acc hx hb
   simp only[List.length_cons] at hb
   simp only[List.map_cons,rangeF]
   rw[hx x mCs,bi_some,Kxb (by simp;omega),bi_some,bi_some,ih (i+1) _ (fun y hy=>hx y (mCo _ hy)) (by simp;omega)]
   simp
 rw[loop c.lf 0 [] (fun x hx=>(h3 x hx).2) (by simpa using hb)]
 simp
theorem Ksc(node:Str)(v:Int)(k:Nat)(c:CC)(hw:c.WF)(hk:c.dp<k)(hb:c.lf.length≤1000000):Ldb k c.t l fresh node v=some (c.sh.ev (c.lf.map (lv l fresh node v))):=by
 obtain⟨h1,h2⟩:=Ksb hI hl fresh node v k c hw hk hb
 unfold Ldb
 rw[h1,bi_some]
 have:=Kry (c.lf.map (lv l fresh node v)) h2 (by simpa using hb) c.dp k c 0 hw (Nat.le_refl _) hk (by rw[Nat.zero_add,List.length_map,(sh_n hw).1];exact Nat.le_refl _)
 rw[show((0:Nat):Int)=0 from rfl,List.drop_zero] at this
 rw[this];rfl
theorem Ksd(node:Str)(v:Int)(k:Nat)(c:CC)(hw:c.WF)(hk:c.dp<k)(hb:c.lf.length≤1000000) :
  Lat k ⟨fresh,m⟩ c.t node v 0=some (⟨c.sh.ev (c.lf.map (lv l fresh node v)),c.sh.pf 0 (c.lf.map (lv l fresh node v))⟩,(c.sh.n:Int)):=by
 have:=Krw hI hl fresh node v c.dp k c 0 [] hw (Nat.le_refl _) hk (by decide) (by rw[(sh_n hw).1];omega)
 rw[List.append_nil,Int.zero_add] at this
 exact this
theorem Kse(node:Str)(v:Int)(k:Nat)(c:CC)(hw:c.WF)(hk:c.dp<k)(hb:c.lf.length≤1000000) :
  Lau k ⟨fresh,m⟩ c.t node v=some (c.sh.ev (c.lf.map (lv l fresh node v))):=by
 unfold Lau
 rw[Ksd hI hl fresh node v k c hw hk hb];rfl
end
end Go.Gk
