import Derived.Test.YtjmlnnanfkiakaaGreatDoorPA
set_option linter.all false
set_option maxRecDepth 100000
namespace Go.Gk
abbrev Smal(l:List Int):Prop:=l.length≤9223372036854775807
section
variable{l:List Int}{b:Int}{s:Lev}
theorem Krj(h:At l 0 b s)(n:Int)(hl:Smal l)(hb:b<4611686018427387904)(hn:1≤n)(hn2:n≤1000000):Ok (Lfm s n) fun r=>(0≤r.1∧r.1<n)∧At l 0 (b+1) r.2:=by
 obtain⟨e1,e2,e3⟩:=h
 obtain⟨r,h1,h2,h3⟩:=Lbh l s.v_at n hl (by omega) (by omega) hn (by omega)
 rw[←e1] at h3
 exact⟨_,h3,⟨h1,h2⟩,e1,by simp only;omega,by simp only;omega⟩
theorem Krk(h:At l 0 b s)(n:Int)(hl:Smal l)(hb:b<4611686018427387904)(hn:1≤n)(hn2:n≤1000000):Ok (Lfp s n) fun r=>At l 0 (b+1) r.2:=
 Ldn (Leb h n hl (by decide) hb hn (by omega)) fun r hr=>hr.up (by decide) (Int.le_refl _)
theorem Krl{P:Str→Prop}(h:At l 0 b s)(xs:List Str)(hl:Smal l)(hb:b<4611686018427387904)(hn:1≤xs.length)(hn2:xs.length≤1000)(hp:∀ x∈xs,P x):Ok (Lfr s xs) fun r=>P r.1∧At l 0 (b+1) r.2:=
 Ldn (Led h xs hl (by decide) hb hn hn2) fun r hr=>⟨hp _ hr.1,hr.2.up (by decide) (Int.le_refl _)⟩
theorem Krm(h:At l 0 b s)(xs:List Int)(hl:Smal l)(hb:b<4611686018427387904)(hn:1≤xs.length)(hn2:xs.length≤1000):Ok (Lfo s xs) fun r=>At l 0 (b+1) r.2:=
 Ldn (Lec h xs hl (by decide) hb hn hn2) fun r hr=>hr.2.up (by decide) (Int.le_refl _)
theorem Krn(h:At l 0 b s)(lo hi:Int)(hl:Smal l)(hb:b<4611686018427387904)(h2:lo≤hi)(h3 : -1000000≤lo)(h4:hi≤1000000):Ok (Lfn s lo hi) fun r=>(lo≤r.1∧r.1≤hi)∧At l 0 (b+1) r.2:=
 Ldn (Lee h lo hi hl (by decide) hb h2 (by omega) (by omega)) fun r hr=>⟨⟨hr.1,hr.2.1⟩,hr.2.2.up (by decide) (Int.le_refl _)⟩
theorem Kro{α:Type}{P:α→Prop}(xs:List α){i n:Int}(h:0≤i∧i<n)(hn:(xs.length:Int)=n)(hp:∀ x∈xs,P x):Ok (getZ xs i) P:=by
 obtain⟨x,hx,e⟩:=Lbj xs h.1 (by omega)
 exact⟨x,e,hp x hx⟩
theorem Krp(h:At l 0 b s)(hl:Smal l)(hb:b<4611686018427380000):Ok (Lfq s) fun r=>(DirOk r.1∧2≤r.1.Owners.length∧r.1.Owners.length≤5∧r.1.Users.length≤5∧∀ o∈r.1.Owners,o.Users.length≤3)∧At l 0 (b+4) r.2:=by
 unfold Lfq
 refine Ldl (Krj h 3 hl (by omega) (by decide) (by decide)) fun y1 h1=>?_
 refine Ldl (Kro (P:=fun x:List Str=>x.length≤3) _ h1.1 rfl (by decide)) fun x3 h3=>?_
 refine Ldl (Krj h1.2 2 hl (by omega) (by decide) (by decide)) fun y5 h5=>?_
 refine Ldl (Kro (P:=fun x:List Str=>x.length≤3) _ h5.1 rfl (by decide)) fun x7 h7=>?_
 refine Ldl (Krm h5.2 _ hl (by omega) (by decide) (by decide)) fun y9 h9=>?_
 refine Ldl (Krk h9 3 hl (by omega) (by decide) (by decide)) fun y11 h11=>Ldk ?_
 have hu:∀ o∈[(⟨[100,98],x3⟩:Lew),(⟨[119,101,98],x7⟩:Lew)],o.Users.length≤3:=by
  intro o ho
  simp only[List.mem_cons,List.not_mem_nil,or_false] at ho
  rcases ho with rfl | rfl
  ·exact h3
  exact h7
 refine⟨⟨⟨?_,(by simp),?_,(by simp)⟩,(by simp),(by simp),(by simp),hu⟩,h11.up (Int.le_refl _) (by omega)⟩
 ·exact(by decide:∀ x∈([[97,110,110],[98,111,98],[99,105,100]]:List Str),x∈keyT)
 intro o ho
 refine⟨?_,Nat.le_trans (hu o ho) (by decide)⟩
 simp only[List.mem_cons,List.not_mem_nil,or_false] at ho
 rcases ho with rfl | rfl
 ·exact(by decide:([100,98]:Str)∈keyT)
 exact(by decide:([119,101,98]:Str)∈keyT)
theorem Krq(h:At l 0 b s)(hl:Smal l)(hb:b<4611686018427380000):Ok (Lfs s) fun r=>DirOk r.1∧At l 0 (b+10) r.2:=by
 unfold Lfs
 refine Ldl (Krp h hl hb) fun y1 h1=>?_
 obtain⟨⟨d1,d2,d3,d4,d5⟩,h1⟩:=h1
 refine Ldl (Krk h1 15 hl (by omega) (by decide) (by decide)) fun y3 h3=>?_
 refine Ldl (P:=fun q:Lev×List Str×List Lew×Int=>DirOk ⟨q.2.1,q.2.2.1,q.2.2.2,y1.1.Approve⟩∧At l 0 (b+10) q.1) ?_ fun q hq=>Ldk hq
 refine Ldo (fun _=>?_) fun _=>Ldk ⟨⟨d1.us,d1.ul,d1.ow,d1.ol⟩,h3.up (Int.le_refl _) (by omega)⟩
 refine Ldl (Krj h3 4 hl (by omega) (by decide) (by decide)) fun y8 h8=>?_
 refine Ldo (fun _=>?_) fun _=>Ldo (fun _=>?_) fun _=>Ldo (fun _=>?_) fun _=>?_
 ·refine Ldl (Krl (P:=fun x=>x∈keyT) h8.2 _ hl (by omega) (by decide) (by decide) (by decide)) fun y11 h11=>?_
  refine Ldv (by simp only[List.length_cons,List.length_nil];omega) (Ldk ⟨⟨?_,?_,d1.ow,d1.ol⟩,h11.2.up (Int.le_refl _) (by omega)⟩)
  ·intro x hx
   rcases List.mem_append.1 hx with h1 | h1
   ·exact d1.us x h1
   rw[List.mem_singleton.1 h1];exact h11.1
  simp only[List.length_append,List.length_cons,List.length_nil];omega
 ·refine Ldl (Krl (P:=fun x=>x∈keyT) h8.2 _ hl (by omega) (by decide) (by decide) (by decide)) fun y17 h17=>?_
  refine Ldl (Krl (P:=fun x=>x∈keyT) h17.2 _ hl (by omega) (by decide) (by decide) (by decide)) fun y19 h19=>?_
  refine Ldv (by simp only[List.length_cons,List.length_nil];omega) (Ldk ⟨⟨d1.us,d1.ul,?_,?_⟩,h19.2.up (Int.le_refl _) (by omega)⟩)
  ·intro x hx
   rcases List.mem_append.1 hx with h1 | h1
   ·exact d1.ow x h1
   rw[List.mem_singleton.1 h1];exact⟨h17.1,by simp⟩
  simp only[List.length_append,List.length_cons,List.length_nil];omega
 ·refine Ldl (Krl (P:=fun x=>x∈keyT) h8.2 _ hl (by omega) (by decide) (by decide) (by decide)) fun y25 h25=>?_
  refine Ldu (j:=0) (x:=y1.1.Owners[0]'(by omega)) rfl (gGe _) (Ldk ⟨⟨d1.us,d1.ul,?_,?_⟩,h25.2.up (Int.le_refl _) (by omega)⟩)
  ·intro x hx
   rcases List.mem_or_eq_of_mem_set hx with h1 | rfl
   ·exact d1.ow x h1
   exact⟨(d1.ow _ (List.getElem_mem _)).1,by simp⟩
  rw[List.length_set];exact d1.ol
 refine Ldl (Krm h8.2 _ hl (by omega) (by decide) (by decide)) fun y31 h31=>?_
 exact Ldk ⟨⟨d1.us,d1.ul,d1.ow,d1.ol⟩,h31.up (Int.le_refl _) (by omega)⟩
theorem Krr(h:At l 0 b s)(hl:Smal l)(hb:b<4611686018427387904):Ok (Lft s) fun r=>r.1∈keyT∧At l 0 (b+1) r.2:=by
 unfold Lft
 exact Ldl (Krl (P:=fun x=>x∈keyT) h _ hl (by omega) (by decide) (by decide) (by decide)) fun y1 h1=>Ldk h1
theorem Krs(h:At l 0 b s)(hl:Smal l)(hb:b<4611686018427387904):Ok (Lfu s) fun r=>r.1∈tagsT∧At l 0 (b+1) r.2:=by
 unfold Lfu
 refine Ldl (Krj h 6 hl (by omega) (by decide) (by decide)) fun y1 h1=>?_
 exact Ldl (Kro (P:=fun x=>x∈tagsT) _ h1.1 rfl (by decide)) fun x3 h3=>Ldk ⟨h3,h1.2⟩
theorem Krt(h:At l 0 b s)(hl:Smal l)(hb:b<4611686018427380000)(t:Int):Ok (Lfv s t) fun r=>StepOk r.1∧At l 0 (b+12) r.2:=by
 unfold Lfv
 have n0:([]:Str)∈keyT:=by decide
 have nd0:([]:Str)∈ndT:=by decide
 have jn0:([]:Str)∈jnT:=by decide
 have p0:([]:Str)∈pubT:=by decide
 have t0:([]:List Str)∈tagsT:=by decide
 refine Ldl (Krl (P:=fun x=>x∈keyT) h _ hl (by omega) (by decide) (by decide) (by decide)) fun y1 h1=>?_
 refine Ldl (Krm h1.2 _ hl (by omega) (by decide) (by decide)) fun y3 h3=>?_
 refine Ldl (Krr h3 hl (by omega)) fun y5 h5=>?_
 refine Ldl (Krl (P:=fun x=>x∈ndT) h5.2 _ hl (by omega) (by decide) (by decide) (by decide)) fun y7 h7=>?_
 refine Ldl (Krl (P:=fun x=>x∈jnT) h7.2 _ hl (by omega) (by decide) (by decide) (by decide)) fun y9 h9=>?_
 refine Ldl (Krl (P:=fun x=>x∈pubT) h9.2 _ hl (by omega) (by decide) (by decide) (by decide)) fun y11 h11=>?_
 refine Ldl (P:=fun q:Lev×Ley=>StepOk q.2∧At l 0 (b+12) q.1) ?_ fun q hq=>Ldk hq
 refine Ldo (fun _=>?_) fun _=>Ldo (fun _=>?_) fun _=>Ldo (fun _=>?_) fun _=>Ldo (fun _=>?_) fun _=>Ldo (fun _=>?_) fun _=>Ldo (fun _=>?_) fun _=>?_
 ·refine Ldl (Krs h11.2 hl (by omega)) fun y16 h16=>?_
  refine Ldl (Krm h16.2 _ hl (by omega) (by decide) (by decide)) fun y18 h18=>?_
  refine Ldl (Krm h18 _ hl (by omega) (by decide) (by decide)) fun y20 h20=>?_
  refine Ldl (Krk h20 2 hl (by omega) (by decide) (by decide)) fun y22 h22=>?_
  exact Ldk ⟨⟨h1.1,h5.1,nd0,h9.1,n0,p0,h16.1⟩,h22.up (Int.le_refl _) (by omega)⟩
 ·exact Ldk ⟨⟨h1.1,h5.1,nd0,h9.1,n0,p0,t0⟩,h11.2.up (Int.le_refl _) (by omega)⟩
 ·refine Ldl (Krl (P:=fun x=>x∈keyT) h11.2 _ hl (by omega) (by simp) (by simp) (by
   intro x hx
   rcases List.mem_cons.1 hx with rfl | hx
   ·exact Lco _ h7.1
   exact(by decide:∀ x∈([[98,111,120],[98,111,120],[119,101,98]]:List Str),x∈keyT) x hx)) fun y28 h28=>?_
  refine Ldl (Krk h28.2 4 hl (by omega) (by decide) (by decide)) fun y30 h30=>?_
  refine Ldo (fun _=>?_) fun _=>Ldk ⟨⟨h1.1,h5.1,h7.1,jn0,h28.1,h11.1,t0⟩,h30.up (Int.le_refl _) (by omega)⟩
  refine Ldl (Krk h30 8 hl (by omega) (by decide) (by decide)) fun y33 h33=>?_
  exact Ldo (fun _=>Ldk ⟨⟨h1.1,n0,h7.1,h9.1,h28.1,h11.1,t0⟩,h33.up (Int.le_refl _) (by omega)⟩) fun _=>Ldk ⟨⟨h1.1,h5.1,h7.1,h9.1,h28.1,h11.1,t0⟩,h33.up (Int.le_refl _) (by omega)⟩
 ·exact Ldk ⟨⟨h1.1,h5.1,h7.1,jn0,n0,h11.1,t0⟩,h11.2.up (Int.le_refl _) (by omega)⟩
 ·refine Ldl (Krl (P:=fun x=>x∈keyT) h11.2 _ hl (by omega) (by decide) (by decide) (by decide)) fun y42 h42=>?_
  exact Ldk ⟨⟨h1.1,h5.1,h7.1,jn0,h42.1,p0,t0⟩,h42.2.up (Int.le_refl _) (by omega)⟩
 ·refine Ldl (Krs h11.2 hl (by omega)) fun y46 h46=>?_
  exact Ldk ⟨⟨h1.1,h5.1,h7.1,jn0,n0,p0,h46.1⟩,h46.2.up (Int.le_refl _) (by omega)⟩
 exact Ldk ⟨⟨h1.1,h5.1,h7.1,jn0,n0,p0,t0⟩,h11.2.up (Int.le_refl _) (by omega)⟩
end
end Go.Gk
namespace Go.Gk
section
variable{l:List Int}{b:Int}{s:Lev}
def AllS(m:List Ley):Prop:=∀ x∈m,StepOk x
theorem AllS.set{m:List Ley}(h:AllS m){i:Nat}{x:Ley}(hx:StepOk x):AllS (m.set i x):=fun y hy=>by
 rcases List.mem_or_eq_of_mem_set hy with h1 | rfl
 ·exact h y h1
 exact hx
theorem AllS.nil:AllS []:=fun x hx=>absurd hx List.not_mem_nil
theorem AllS.set2{m:List Ley}(h:AllS m){i:Nat}{x y:Ley}(hx:StepOk x)(hy:StepOk y):AllS ((m.set i x).set i y):=(h.set hx).set hy
theorem Kue:∃ z,Kqt [97] 21=some z∧z∈pubT:=⟨List.replicate 21 97,by rfl,by decide⟩
theorem Kuf(h:At l 0 b s)(hl:Smal l)(hb:b<4611686018427300000)(many:Int)(hm:0≤many)(hm2:many≤14) :
  Ok (Lgd 400 s many) fun r=>(AllS r.1∧r.1.length=many.toNat)∧At l 0 (b+1000) r.2:=by
 unfold Lgd
 refine Ldl (Krj h 5 hl (by omega) (by decide) (by decide)) fun y1 h1=>?_
 refine Ldl (Ldp (dT (by omega)) (Ldr (fun i (st:Lev×(List Ley)×(List (Str×Int))×Int)=>At l 0 (b+1+13 * i) st.1∧AllS st.2.1∧st.2.1.length=i) ⟨h1.2.up (Int.le_refl _) (by simp),AllS.nil,rfl⟩ fun i st hi hI=>?_)) fun q6 h6=>?_
 ·obtain⟨i1,i2,i3⟩:=hI
  refine Ldl (Krt i1 hl (by omega) _) fun y15 h15=>?_
  refine Ldv (by simp only[List.length_cons,List.length_nil];omega) ?_
  refine Ldl (Krm h15.2 _ hl (by omega) (by decide) (by decide)) fun y19 h19=>Ldk ⟨h19.up (Int.le_refl _) (by omega),?_,?_⟩
  ·intro x hx
   rcases List.mem_append.1 hx with g1 | g1
   ·exact i2 x g1
   ·rw[List.mem_singleton.1 g1];exact⟨h15.1.sv,h15.1.by_,h15.1.nd,h15.1.jn,h15.1.nm,h15.1.pb,h15.1.tg⟩
  ·simp only[List.length_append,List.length_cons,List.length_nil];omega
 ·obtain⟨i1,i2,i3⟩:=h6
  refine Ldl (Lei q6.2.1 (by omega)) fun y21 h21=>Ldp (dT h21.1) ?_
  have hy:AllS y21:=fun x hx=>i2 x (h21.2 x hx)
  have hyl:y21.length=many.toNat:=h21.1.trans i3
  refine Ldl (P:=fun q:Lev×Bool=>At l 0 (b+200) q.1∧(q.2=true→0<y21.length)) (Ldo (fun g=>?_) fun _=>Ldk ⟨i1.up (Int.le_refl _) (by omega),fun g=>by cases g⟩) fun q25 h25=>?_
  ·have:=of_decide_eq_true g
   exact Ldl (Krk i1 15 hl (by omega) (by decide) (by decide)) fun y28 h28=>Ldk ⟨h28.up (Int.le_refl _) (by omega),fun _=>by omega⟩
  ·refine Ldl (P:=fun q:Lev×List Ley=>(AllS q.2∧q.2.length=many.toNat)∧At l 0 (b+1000) q.1) (Ldo (fun g=>?_) fun _=>Ldk ⟨⟨hy,hyl⟩,h25.1.up (Int.le_refl _) (by omega)⟩) fun q31 h31=>Ldk h31
   have hn:=h25.2 g
   refine Ldl (Krj h25.1 _ hl (by omega) (by omega) (by omega)) fun y34 h34=>?_
   refine Ldl (Kro (P:=StepOk) y21 h34.1 rfl hy) fun x36 h36=>?_
   refine Ldl (Krj h34.2 6 hl (by omega) (by decide) (by decide)) fun y39 h39=>?_
   refine Ldo (fun _=>?_) fun _=>Ldo (fun _=>?_) fun _=>Ldo (fun _=>?_) fun _=>Ldo (fun _=>?_) fun _=>Ldo (fun _=>?_) fun _=>?_
   ·refine Ldl (Krm h39.2 _ hl (by omega) (by decide) (by decide)) fun y42 h42=>Ldk ⟨⟨hy.set ⟨h36.sv,h36.by_,h36.nd,h36.jn,h36.nm,h36.pb,h36.tg⟩,by rw[List.length_set];exact hyl⟩,h42.up (Int.le_refl _) (by omega)⟩
   ·refine Ldl (Krl (P:=fun x=>x∈keyT) h39.2 _ hl (by omega) (by decide) (by decide) (by decide)) fun y46 h46=>?_
    refine Ldl (Krm h46.2 _ hl (by omega) (by decide) (by decide)) fun y48 h48=>Ldk ⟨⟨(AllS.set2 hy (x:=_) (y:=_) ?_ ?_),by rw[List.length_set,List.length_set];exact hyl⟩,h48.up (Int.le_refl _) (by omega)⟩
    ·exact⟨h46.1,h36.by_,h36.nd,h36.jn,h36.nm,h36.pb,h36.tg⟩
    ·exact⟨h46.1,h36.by_,h36.nd,h36.jn,h36.nm,h36.pb,h36.tg⟩
   ·refine Ldl (Krm h39.2 _ hl (by omega) (by decide) (by decide)) fun y53 h53=>Ldk ⟨⟨hy.set ⟨h36.sv,h36.by_,h36.nd,h36.jn,h36.nm,h36.pb,h36.tg⟩,by rw[List.length_set];exact hyl⟩,h53.up (Int.le_refl _) (by omega)⟩
   ·refine Ldl (Krl (P:=fun x=>x∈keyT) h39.2 _ hl (by omega) (by decide) (by decide) (by decide)) fun y57 h57=>?_
    refine Ldl (Krl (P:=fun x=>x∈ndT) h57.2 _ hl (by omega) (by decide) (by decide) (by decide)) fun y59 h59=>Ldk ⟨⟨(AllS.set2 hy (x:=_) (y:=_) ?_ ?_),by rw[List.length_set,List.length_set];exact hyl⟩,h59.2.up (Int.le_refl _) (by omega)⟩
    ·exact⟨h36.sv,h57.1,h36.nd,h36.jn,h36.nm,h36.pb,h36.tg⟩
    ·exact⟨h36.sv,h57.1,h59.1,h36.jn,h36.nm,h36.pb,h36.tg⟩
   ·obtain⟨z,hz,hz2⟩:=Kue
    refine Ldm hz ?_
    refine Ldl (Krl (P:=fun x=>x∈pubT) h39.2 _ hl (by omega) (by simp) (by simp) (by
     intro x hx
     simp only[List.mem_cons,List.not_mem_nil,or_false] at hx
     rcases hx with rfl | rfl | rfl | rfl
     ·decide
     ·decide
     ·decide
     ·exact hz2)) fun y66 h66=>?_
    refine Ldl (Krm h66.2 _ hl (by omega) (by decide) (by decide)) fun y68 h68=>Ldk ⟨⟨(AllS.set2 hy (x:=_) (y:=_) ?_ ?_),by rw[List.length_set,List.length_set];exact hyl⟩,h68.up (Int.le_refl _) (by omega)⟩
    ·exact⟨h36.sv,h36.by_,h36.nd,h36.jn,h36.nm,h66.1,h36.tg⟩
    ·exact⟨h36.sv,h36.by_,h36.nd,h36.jn,h36.nm,h66.1,h36.tg⟩
   ·refine Ldl (Krj h39.2 3 hl (by omega) (by decide) (by decide)) fun y72 h72=>?_
    exact Ldl (Kro (P:=fun x=>x∈tagsT) _ h72.1 rfl (by decide)) fun x74 h74=>Ldk ⟨⟨hy.set ⟨h36.sv,h36.by_,h36.nd,h36.jn,h36.nm,h36.pb,h74⟩,by rw[List.length_set];exact hyl⟩,h72.2.up (Int.le_refl _) (by omega)⟩
end
end Go.Gk
namespace Go.Gk
section
variable{l:List Int}{b:Int}{s:Lev}
theorem Kug(a c:Int):Lgw [a,c]=some (if a≠0 then a else c):=by
 unfold Lgw
 by_cases ha:a=0
 ·by_cases hc:c=0
  ·subst ha hc;rfl
  have:(c != 0)=true:=by simpa using hc
  subst ha
  simp[rangeM,this,goI]
 have:(a != 0)=true:=by simpa using ha
 simp[rangeM,this,goI,ha]
theorem Kuh(h:At l 0 b s)(hl:Smal l)(hb:b<4611686018427200000)(many:Int)(hm:0≤many)(hm2:many≤14) :
  Ok (Lgx 400 s many) fun r=>(DirOk r.1.d∧AllS r.1.l∧r.1.l.length≤14∧∃ e,Lgl r.1.d=some e∧∃ e2,Lgv r.1.l=some e2∧r.1.fault=if e≠0 then e else e2)∧At l 0 (b+2000) r.2:=by
 unfold Lgx
 refine Ldl (Krq (show At l 0 b ⟨s.L,s.v_at⟩ from h) hl (by omega)) fun y1 h1=>?_
 refine Ldl (Kuf h1.2 hl (by omega) many hm (by omega)) fun y3 h3=>?_
 obtain⟨e0,he0,_⟩:=Laz h1.1
 refine Ldm he0 ?_
 obtain⟨e,_,e2,_⟩:=Ldj h3.1.1 (by omega)
 refine Ldm e2 ?_
 rw[Kug]
 exact Ldk ⟨⟨h1.1,h3.1.1,by simp only;omega,e0,he0,e,e2,rfl⟩,h3.2.up (Int.le_refl _) (by omega)⟩
end
end Go.Gk
namespace Go.Gk
theorem Ksh{α:Type}(l:List (Nat×α))(n:Nat)(x:α):hGet ((n,x) :: l) (n+1)=some x:=by simp[hGet]
theorem Ksi{α:Type}(l:List (Nat×α))(n:Nat)(x:α)(h:Nat)(hn:h≠n+1):hGet ((n,x) :: l) h=hGet l h:=by
 cases h with
 | zero=>rfl
 | succ t=>
  have:(t==n)=false:=by simp;omega
  simp[hGet,List.find?_cons,this]
theorem Ksj{α:Type}(l:List (Nat×α))(h h':Nat)(x y:α)(hy:hGet l h=some y):hGet (hSet l h x) h'=if h'=h then some x else hGet l h':=by
 obtain⟨t,i,rfl,h1,h2⟩:=Kkn hy
 have hset:hSet l (t+1) x=l.set i (t,x):=by simp only[hSet,h1]
 rw[hset]
 cases h' with
 | zero=>rw[if_neg (by omega)];rfl
 | succ s=>
  have key:∀ (l:List (Nat×α)) (i:Nat),l.findIdx? (fun e=>t==e.1)=some i→((l.set i (t,x)).find? fun e=>s==e.1).map (·.2)=if s=t then some x else(l.find? fun e=>s==e.1).map (·.2):=by
   intro l
   induction l with
   | nil=>intro i h;simp at h
   | cons e l ih=>
    intro i h
    rw[List.findIdx?_cons] at h
    by_cases ht:t=e.1
    ·have h0:(t==e.1)=true:=by simpa using ht
     rw[h0] at h
     simp only[if_true,Option.some.injEq] at h
     subst h
     simp only[List.set_cons_zero,List.find?_cons]
     by_cases hs:s=t
     ·subst hs;simp
     have e1:(s==t)=false:=by simpa using hs
     have e2:(s==e.1)=false:=by rw[←ht];exact e1
     simp only[e1,e2,if_neg hs]
    have h0:(t==e.1)=false:=by simpa using ht
    rw[h0] at h
    simp only[Bool.false_eq_true,if_false,Option.map_eq_some_iff] at h
    obtain⟨j,hj,rfl⟩:=h
    simp only[List.set_cons_succ,List.find?_cons]
    by_cases hs:s=e.1
    ·have e1:(s==e.1)=true:=by simpa using hs
     simp only[e1]
     rw[if_neg (by rw[hs];exact Ne.symm ht)]
    have e1:(s==e.1)=false:=by simpa using hs
    simp only[e1]
    exact ih j hj
  have:=key l i h1
  simp only[hGet]
  rw[this]
  by_cases hs:s=t
  ·subst hs;simp
  rw[if_neg hs,if_neg (by omega)]
theorem Ksk{α:Type}{l:List (Nat×α)}{h b:Nat}{x:α}(hl:∀ e∈l,e.1<b):∀ e∈hSet l h x,e.1<b:=by
 unfold hSet
 cases h with
 | zero=>exact hl
 | succ t=>
  simp only
  cases hi:l.findIdx? (fun e=>t==e.1) with
  | none=>exact hl
  | some i=>
   intro e he
   rcases List.mem_or_eq_of_mem_set he with h1 | rfl
   ·exact hl e h1
   obtain⟨h1,h2,_⟩:=lFi.1 hi
   have:=hl _ (List.getElem_mem h1)
   have ht:t=(l[i]).1:=by simpa using h2
   simp only;omega
theorem Ksl{α:Type}{l:List (Nat×α)}{h b:Nat}(hl:∀ e∈l,e.1<b):∀ e∈hDel l h,e.1<b:=by
 unfold hDel
 cases h with
 | zero=>exact hl
 | succ t=>
  simp only
  cases hi:l.findIdx? (fun e=>t==e.1) with
  | none=>exact hl
  | some i=>exact fun e he=>hl e ((List.eraseIdx_sublist ..).subset he)
theorem Ksm{α:Type}{l:List (Nat×α)}{h:Nat}{x:α}(hh:hGet l h=some x):∃ t,h=t+1∧(t,x)∈l:=by
 obtain⟨t,i,rfl,_,h2⟩:=Kkn hh
 exact⟨t,rfl,mOg h2⟩
theorem Ksn{α:Type}{l:List (Nat×α)}{h b:Nat}{x:α}(hl:∀ e∈l,e.1<b)(hh:hGet l h=some x):h≠b+1:=by
 obtain⟨t,rfl,hm⟩:=Ksm hh
 have:=hl _ hm
 simp only at this;omega
theorem Kso{α:Type}{l:List (Nat×α)}{h h':Nat}(hn:h'≠h):hGet (hDel l h) h'=hGet l h':=by
 unfold hDel
 cases h with
 | zero=>rfl
 | succ t=>
  simp only
  cases hi:l.findIdx? (fun e=>t==e.1) with
  | none=>rfl
  | some i=>
   cases h' with
   | zero=>rfl
   | succ s=>
    have hst:s≠t:=fun e=>hn (by rw[e])
    have key:∀ (l:List (Nat×α)) (i:Nat),l.findIdx? (fun e=>t==e.1)=some i→((l.eraseIdx i).find? fun e=>s==e.1)=l.find? fun e=>s==e.1:=by
     intro l
     induction l with
     | nil=>intro i h;simp at h
     | cons e l ih=>
      intro i h
      rw[List.findIdx?_cons] at h
      by_cases ht:t=e.1
      ·have h0:(t==e.1)=true:=by simpa using ht
       rw[h0] at h
       simp only[if_true,Option.some.injEq] at h
       subst h
       have e2:(s==e.1)=false:=by rw[←ht];simpa using hst
       simp only[List.eraseIdx_zero,List.tail_cons,List.find?_cons,e2]
      have h0:(t==e.1)=false:=by simpa using ht
      rw[h0] at h
      simp only[Bool.false_eq_true,if_false,Option.map_eq_some_iff] at h
      obtain⟨j,hj,rfl⟩:=h
      simp only[List.eraseIdx_cons_succ,List.find?_cons]
      cases s==e.1 with
      | true=>rfl
      | false=>exact ih j hj
    simp only[hGet,key l i hi]
section
variable{K V W:Type}[BEq K][LawfulBEq K][KLt K][KOrd K]
theorem Ksp(f:V→W)(m:List (K×V))(k:K):mGet (m.map fun e=>(e.1,f e.2)) k=(mGet m k).map f:=by
 induction m with
 | nil=>rfl
 | cons e m ih=>
  simp only[List.map_cons,Lak,ih]
  cases k==e.1<;>rfl
theorem SM.map{f:V→W}{m:List (K×V)}(h:SM m):SM (m.map fun e=>(e.1,f e.2)):=List.pairwise_map.2 h
theorem Ksq(f:V→W){m:List (K×V)}(h:SM m)(k:K)(v:V):(mSet m k v).map (fun e=>(e.1,f e.2))=mSet (m.map fun e=>(e.1,f e.2)) k (f v):=
 SM.ext (h.set k v).map (h.map.set k (f v)) fun k'=>by
  rw[Ksp,Laq,Laq,Ksp]
  cases k'==k<;>rfl
theorem SM.del{m:List (K×V)}(h:SM m)(k:K):SM (mDel m k):=by
 unfold mDel
 cases m.findIdx? (fun e=>k==e.1) with
 | none=>exact h
 | some i=>exact h.sublist (List.eraseIdx_sublist ..)
theorem Ksr{m:List (K×V)}(h:SM m)(k k':K):mGet (mDel m k) k'=if k'==k then none else mGet m k':=by
 unfold mDel
 cases hi:m.findIdx? (fun e=>k==e.1) with
 | none=>
  by_cases hk:k'=k
  ·subst hk
   simp only[beq_self_eq_true,if_true]
   exact Lal.2 fun e he e2=>by
    have:=List.findIdx?_eq_none_iff.1 hi e he
    rw[e2] at this;simp at this
  have:(k'==k)=false:=by simpa using hk
  simp[this]
 | some i=>
  induction m generalizing i with
  | nil=>simp at hi
  | cons e m ih=>
   obtain⟨h1,h2⟩:=List.pairwise_cons.1 h
   rw[List.findIdx?_cons] at hi
   by_cases hk:k=e.1
   ·subst hk
    simp at hi
    subst hi
    simp only[List.eraseIdx_zero,List.tail_cons,Lak]
    by_cases h3:k'=e.1
    ·subst h3
     simp only[beq_self_eq_true,if_true]
     exact Lal.2 fun x hx=>(Lai (h1 x hx)).symm
    have:(k'==e.1)=false:=by simpa using h3
    simp[this]
   have hk2:(k==e.1)=false:=by simpa using hk
   rw[hk2] at hi
   simp only[Bool.false_eq_true,if_false,Option.map_eq_some_iff] at hi
   obtain⟨j,hj,rfl⟩:=hi
   simp only[List.eraseIdx_cons_succ,Lak,ih h2 j hj]
   by_cases h3:k'=e.1
   ·subst h3
    have:(e.1==k)=false:=by simpa using Ne.symm hk
    simp[this]
   have:(k'==e.1)=false:=by simpa using h3
   simp[this]
theorem Kss(f:V→W){m:List (K×V)}(h:SM m)(k:K):(mDel m k).map (fun e=>(e.1,f e.2))=mDel (m.map fun e=>(e.1,f e.2)) k:=
 SM.ext (h.del k).map (h.map.del k) fun k'=>by
  rw[Ksp,Ksr h,Ksr h.map,Ksp]
  cases k'==k<;>rfl
end
section
variable{X:Type}
def absH(x0:X)(ar:List (Nat×X))(m:List (Str×Nat)):List (Str×X):=m.map fun e=>(e.1,(hGet ar e.2).getD x0)
structure HOk(ar:List (Nat×X))(m:List (Str×Nat)):Prop where
 sm:SM m
 ok:∀ k h,mGet m k=some h→∃ x,hGet ar h=some x
 inj:∀ k k' h,mGet m k=some h→mGet m k'=some h→k=k'
theorem Kst(x0:X)(ar:List (Nat×X))(m:List (Str×Nat))(k:Str):mGet (absH x0 ar m) k=(mGet m k).map fun h=>(hGet ar h).getD x0:=Ksp (fun h=>(hGet ar h).getD x0) m k
theorem Ksu(x0:X)(ar:List (Nat×X)){m:List (Str×Nat)}(h:SM m):SM (absH x0 ar m):=SM.map (f:=fun h=>(hGet ar h).getD x0) h
theorem HOk.nil{ar:List (Nat×X)}:HOk ar []:=⟨SM.nil,(fun k h e=>by cases e),(fun k k' h e _=>by cases e)⟩
theorem HOk.at(x0:X){ar:List (Nat×X)}{m:List (Str×Nat)}(h:HOk ar m)(k:Str):(mGet (absH x0 ar m) k=none∧(mGet m k).getD 0=0)∨∃ a x,mGet (absH x0 ar m) k=some x∧mGet m k=some a∧(mGet m k).getD 0=a∧hGet ar a=some x∧0<a:=by
 rw[Kst]
 cases hm:mGet m k with
 | none=>exact .inl ⟨rfl,rfl⟩
 | some a=>
  obtain⟨x,hx⟩:=h.ok k a hm
  exact .inr ⟨a,x,by rw[Option.map_some,hx];rfl,rfl,rfl,hx,Kla hx⟩
theorem HOk.set(x0:X){ar:List (Nat×X)}{m:List (Str×Nat)}(h:HOk ar m){k:Str}{a:Nat}(hm:mGet m k=some a)(x:X):HOk (hSet ar a x) m∧absH x0 (hSet ar a x) m=mSet (absH x0 ar m) k x:=by
 obtain⟨y,hy⟩:=h.ok k a hm
 refine⟨⟨h.sm,fun k' a' hk=>?_,h.inj⟩,SM.ext (Ksu x0 _ h.sm) ((Ksu x0 _ h.sm).set k x) fun k'=>?_⟩
 ·obtain⟨z,hz⟩:=h.ok k' a' hk
  rw[Ksj _ _ _ _ _ hy]
  by_cases e:a'=a
  ·exact⟨x,by rw[if_pos e]⟩
  exact⟨z,by rw[if_neg e];exact hz⟩
 have e1:mGet (absH x0 (hSet ar a x) m) k'=_:=Kst x0 (hSet ar a x) m k'
 have e2:mGet (mSet (absH x0 ar m) k x) k'=_:=Laq _ _ _ _
 refine e1.trans (Eq.trans ?_ e2.symm)
 rw[Kst]
 by_cases hk:k'=k
 ·subst hk
  simp only[beq_self_eq_true,if_true,hm,Option.map_some,Ksj _ _ _ _ _ hy]
  rfl
 have:(k'==k)=false:=by simpa using hk
 rw[this]
 simp only[Bool.false_eq_true,if_false]
 cases hk':mGet m k' with
 | none=>rfl
 | some a'=>
  have hne:a'≠a:=fun e=>hk (h.inj k' k a' hk' (e▸hm))
  simp only[Option.map_some,Ksj _ _ _ _ _ hy,if_neg hne]
theorem HOk.new(x0:X){ar:List (Nat×X)}{m:List (Str×Nat)}{b:Nat}(h:HOk ar m)(hb:∀ e∈ar,e.1<b)(k:Str)(x:X)(hk:mGet m k=none):HOk ((b,x) :: ar) (mSet m k (b+1))∧absH x0 ((b,x) :: ar) (mSet m k (b+1))=mSet (absH x0 ar m) k x:=by
 have old:∀ k' a,mGet m k'=some a→a≠b+1∧hGet ((b,x) :: ar) a=hGet ar a:=fun k' a ha=>by
  obtain⟨y,hy⟩:=h.ok k' a ha
  have:=Ksn hb hy
  exact⟨this,Ksi _ _ _ _ this⟩
 refine⟨⟨h.sm.set _ _,fun k' a' hg=>?_,fun k1 k2 a' h1 h2=>?_⟩,SM.ext (Ksu x0 _ (h.sm.set _ _)) ((Ksu x0 _ h.sm).set k x) fun k'=>?_⟩
 ·rw[Laq] at hg
  split at hg
  ·cases hg;exact⟨x,Ksh _ _ _⟩
  rw[(old k' a' hg).2];exact h.ok k' a' hg
 ·rw[Laq] at h1 h2
  split at h1<;>split at h2
  ·rename_i q1 q2;rw[beq_iff_eq.1 q1,beq_iff_eq.1 q2]
  ·cases h1;exact absurd rfl (old k2 _ h2).1
  ·cases h2;exact absurd rfl (old k1 _ h1).1
  exact h.inj k1 k2 a' h1 h2
 have e1:mGet (absH x0 ((b,x) :: ar) (mSet m k (b+1))) k'=_:=Kst x0 _ _ k'
 have e2:mGet (mSet (absH x0 ar m) k x) k'=_:=Laq _ _ _ _
 refine e1.trans (Eq.trans ?_ e2.symm)
 rw[Kst,Laq]
 cases hq:k'==k with
 | true=>simp only[if_true,Option.map_some,Ksh];rfl
 | false=>
  simp only[Bool.false_eq_true,if_false]
  cases hk':mGet m k' with
  | none=>rfl
  | some a'=>simp only[Option.map_some,(old k' a' hk').2]
theorem HOk.del(x0:X){ar:List (Nat×X)}{m:List (Str×Nat)}(h:HOk ar m)(k:Str):HOk ar (mDel m k)∧absH x0 ar (mDel m k)=mDel (absH x0 ar m) k:=by
 have sub:∀ k' a,mGet (mDel m k) k'=some a→mGet m k'=some a:=fun k' a hg=>by
  rw[Ksr h.sm] at hg
  split at hg
  ·cases hg
  exact hg
 exact⟨⟨h.sm.del k,fun k' a hg=>h.ok k' a (sub k' a hg),fun k1 k2 a h1 h2=>h.inj k1 k2 a (sub _ _ h1) (sub _ _ h2)⟩,Kss (fun h=>(hGet ar h).getD x0) h.sm k⟩
theorem Ksv(x0:X)(ar:List (Nat×X))(m:List (Str×Nat)):(absH x0 ar m).length=m.length:=List.length_map ..
end
end Go.Gk
namespace Go.Gk
structure Ab where
 d:Lex
 ps:List (Str×Lfg)
 th:List (Str×Lfc)
 st:List (Str×List Lfd)
 hi:List (Str×List Lfk)
def ownT(d:Lex)(u t:Str):Bool:=match d.Owners.find? (fun o=>o.Tag==t) with
 | some o=>o.Users.any fun x=>u==x
 | none=>false
def tagF(d:Lex)(u:Str):List Str→Int
 | []=>0
 | t :: l=>match d.Owners.find? (fun o=>o.Tag==t) with
  | none=>8
  | some o=>bif o.Users.any (fun x=>u==x) then tagF d u l else 16
def mng(d:Lex)(u:Str)(m:Lfc):Bool:=(m.User==u)||m.Tags.any (ownT d u)
def heldA(th:List (Str×Lfc))(p:Str):Bool:=th.any fun e=>e.2.Public==p
def lastA(d:Lex)(z:Int)(u:Str):Int:=bif u==[] then 345686400 else(if (wi (z+d.Life))<345686400 then wi (z+d.Life) else 345686400)
def passF(p:Lfg)(z:Int):Int:=bif p.revoked||decide (z≥p.Join.Until) then 11 else bif decide (p.used≥p.Join.Left) then 12 else 0
def closeH(l:List Lfk)(z:Int):List Lfk:=match l[l.length - 1]? with
 | some x=>l.set (l.length - 1) ⟨x.Public,x.From,z⟩
 | none=>l
def badN(s:Ley):Bool:=(decide (s.Uses<1)||decide (s.Uses>1000))||(decide (s.Until≤s.At)||decide (s.Until>345686400))
def setA(A:Ab)(z:Int)(m:Lfc)(key:Bool):Ab:={ A with th:=mSet A.th m.Node m,st:=mSet A.st m.Node ((mGet A.st m.Node).getD []++[⟨z,m,false,key⟩]) }
def keyA(A:Ab)(s:Ley):Int×Ab:=match mGet A.ps s.Join with
 | some _=>(6,A)
 | none=>bif badN s then(1,A) else bif tagF A.d s.By s.Tags != 0 then(tagF A.d s.By s.Tags,A) else
  (0,{ A with ps:=mSet A.ps s.Join ⟨⟨s.Join,s.By,s.Tags,s.Until,s.Uses,s.Ready⟩,false,0⟩ })
def revA(A:Ab)(s:Ley):Int×Ab:=match mGet A.ps s.Join with
 | none=>(8,A)
 | some p=>bif !((p.Join.By:Str)==s.By) then(16,A) else bif p.revoked then(11,A) else(0,{ A with ps:=mSet A.ps s.Join ⟨p.Join,true,p.used⟩ })
def joinM(A:Ab)(s:Ley)(u:Str)(tags:List Str)(ap:Bool):Lfc:=⟨s.Node,u,s.Name,s.Public,tags,s.At,lastA A.d s.At u,ap⟩
def joinC(A:Ab)(s:Ley):Option Lfg→Ab
 | none=>{ setA A s.At (joinM A s s.By [] (!A.d.Approve)) true with hi:=mSet A.hi s.Node [⟨s.Public,s.At,345686400⟩] }
 | some p=>{ setA { A with ps:=mSet A.ps s.Join ⟨p.Join,p.revoked,wi (p.used+1)⟩ } s.At (joinM A s (bif (p.Join.Tags.length:Int)==0 then p.Join.By else s.By) p.Join.Tags (!A.d.Approve||p.Join.Ready)) true with hi:=mSet A.hi s.Node [⟨s.Public,s.At,345686400⟩] }
def joinB(A:Ab)(s:Ley)(op:Option Lfg):Int×Ab:=
 bif (mGet A.st s.Node).isSome then(6,A) else bif heldA A.th s.Public then(13,A) else bif decide ((A.th.length:Int)≥500) then(2,A) else(0,joinC A s op)
def joinA(A:Ab)(s:Ley):Int×Ab:=
 bif ((s.By:Str)==[]:Bool)==((s.Join:Str)==[]) then(3,A)
 else bif (bif (s.By:Str)==[] then(mGet A.ps s.Join).isNone else !(A.d.Users.any fun x=>s.By==x)) then(8,A)
 else match mGet A.ps s.Join with
  | none=>joinB A s none
  | some p=>bif passF p s.At != 0 then(passF p s.At,A) else joinB A s (some p)
def turnA(A:Ab)(s:Ley)(m:Lfc):Int×Ab:=
 bif (s.Kind:Int)==4 then bif m.Approved then(11,A) else(0,setA A s.At ⟨m.Node,m.User,m.Name,m.Public,m.Tags,m.Joined,m.Expires,true⟩ false)
 else bif (s.Kind:Int)==5 then bif heldA A.th s.Public then(13,A) else(0,{ setA A s.At ⟨m.Node,m.User,m.Name,s.Public,m.Tags,m.Joined,lastA A.d s.At m.User,m.Approved⟩ true with hi:=mSet A.hi s.Node (closeH ((mGet A.hi s.Node).getD []) s.At++[⟨s.Public,s.At,345686400⟩]) })
 else bif (s.Kind:Int)==6 then bif (m.Name:Str)==s.Name then(6,A) else(0,setA A s.At ⟨m.Node,m.User,s.Name,m.Public,m.Tags,m.Joined,m.Expires,m.Approved⟩ false)
 else bif (s.Kind:Int)==7 then bif (s.Tags.length:Int)==0 then(3,A) else bif tagF A.d s.By s.Tags != 0 then(tagF A.d s.By s.Tags,A) else(0,setA A s.At ⟨m.Node,[],m.Name,m.Public,s.Tags,m.Joined,345686400,m.Approved⟩ false)
 else bif (s.Kind:Int)==8 then bif decide (m.Expires≤s.At) then(11,A) else(0,setA A s.At ⟨m.Node,m.User,m.Name,m.Public,m.Tags,m.Joined,s.At,m.Approved⟩ false)
 else(0,{ A with th:=mDel A.th s.Node,st:=mSet A.st s.Node ((mGet A.st s.Node).getD []++[⟨s.At,⟨[],[],[],[],[],0,0,false⟩,true,false⟩]),hi:=mSet A.hi s.Node (closeH ((mGet A.hi s.Node).getD []) s.At) })
def stepA(A:Ab)(s:Ley):Int×Ab:=
 bif (s.Kind:Int)==3 then joinA A s else bif !(A.d.Users.any fun x=>s.By==x) then(8,A) else bif (s.Kind:Int)==1 then keyA A s else bif (s.Kind:Int)==2 then revA A s
 else match mGet A.th s.Node with
  | none=>(8,A)
  | some m=>bif (s.Kind:Int) != 4&&!mng A.d s.By m then(16,A) else turnA A s m
structure StepV(s:Ley):Prop where
 ok:StepOk s
 z:0≤s.At∧s.At≤345686400
 kd:1≤s.Kind∧s.Kind≤9
 jn:s.Kind=1→s.Join≠[]∧s.By≠[]
theorem Ktn{s:Ley}(h:StepOk s):s.Tags.length≤10:=let ⟨_,_,_,h⟩:=Lcn _ h.tg;h
theorem Kto{l:List Str}(h:l.length≤10):Lhw l=some l:=Lci (Lbm (by simp only[List.length_nil];omega)) rfl
structure AInv(A:Ab):Prop where
 ps:∀ k p,mGet A.ps k=some p→k≠[]∧p.Join.By≠[]∧p.Join.Tags.length≤10
 th:∀ k m,mGet A.th k=some m→m.Node=k∧(mGet A.st k).isSome=true∧(mGet A.hi k).isSome=true∧m.Tags.length≤10
 sps:SM A.ps
 sth:SM A.th
 sst:SM A.st
 shi:SM A.hi
 hst:∀ k,(mGet A.hi k).isSome=(mGet A.st k).isSome
theorem Ktp{A:Ab}{z:Int}{m:Lfc}{key:Bool}(h:AInv A)(hm:m.Tags.length≤10)(hh:(mGet A.hi m.Node).isSome=true):AInv (setA A z m key):=by
 refine⟨h.ps,fun k x hx=>?_,h.sps,h.sth.set _ _,h.sst.set _ _,h.shi,fun k=>?_⟩
 ·have hx':mGet (mSet A.th m.Node m) k=some x:=hx
  show _∧(mGet (mSet A.st m.Node _) k).isSome=true∧(mGet A.hi k).isSome=true∧_
  rw[Laq] at hx' ⊢
  cases hk:k==m.Node with
  | true=>
   rw[hk] at hx'
   cases hx'
   have:=beq_iff_eq.1 hk
   subst this
   exact⟨rfl,rfl,hh,hm⟩
  | false=>
   rw[hk] at hx'
   exact h.th k x hx'
 show(mGet A.hi k).isSome=(mGet (mSet A.st m.Node _) k).isSome
 rw[Laq]
 cases hk:k==m.Node with
 | true=>
  have:=beq_iff_eq.1 hk
  subst this
  rw[hh];rfl
 | false=>exact h.hst k
theorem Ktq{A:Ab}(h:AInv A){k:Str}{x:List Lfk}(hk:(mGet A.st k).isSome=true):AInv { A with hi:=mSet A.hi k x }:=by
 refine⟨h.ps,fun k' m hm=>?_,h.sps,h.sth,h.sst,h.shi.set _ _,fun k'=>?_⟩
 ·obtain⟨h1,h2,h3,h4⟩:=h.th k' m hm
  refine⟨h1,h2,?_,h4⟩
  show(mGet (mSet A.hi k x) k').isSome=true
  rw[Laq]
  split<;>first | rfl | exact h3
 show(mGet (mSet A.hi k x) k').isSome=(mGet A.st k').isSome
 rw[Laq]
 split
 ·rename_i hq
  have:=beq_iff_eq.1 hq
  subst this
  rw[hk];rfl
 exact h.hst k'
theorem Ktr{A:Ab}(h:AInv A){k:Str}{p:Lfg}(hp:k≠[]∧p.Join.By≠[]∧p.Join.Tags.length≤10):AInv { A with ps:=mSet A.ps k p }:=by
 refine⟨fun k' x hx=>?_,h.th,h.sps.set _ _,h.sth,h.sst,h.shi,h.hst⟩
 have hx':mGet (mSet A.ps k p) k'=some x:=hx
 rw[Laq] at hx'
 split at hx'
 ·rename_i hq
  have:=beq_iff_eq.1 hq
  subst this
  cases hx'
  exact hp
 exact h.ps k' x hx'
def pass0:Lfg:=⟨⟨[],[],[],0,0,false⟩,false,0⟩
structure BagOk(al:BagT):Prop where
 p:∀ e∈al.2.1,e.1<al.1.length
 r:∀ e∈al.2.2.1,e.1<al.1.length
 m:∀ e∈al.2.2.2.1,e.1<al.1.length
 k:∀ e∈al.2.2.2.2.1,e.1<al.1.length
theorem BagOk.up{al:BagT}(h:BagOk al){t:List Bool}(ht:al.1.length≤t.length):BagOk (t,al.2):=
 ⟨fun e he=>nLl (h.p e he) ht,fun e he=>nLl (h.r e he) ht,fun e he=>nLl (h.m e he) ht,fun e he=>nLl (h.k e he) ht⟩
structure StoryOk(t:List Bool)(m:List (Str×Tl Lfd))(c:Nat):Prop where
 sm:SM m
 ok:∀ k s,mGet m k=some s→s.2≠[]∧s.2.length≤c∧∃ q,s.1=q+2∧t[q]?=some true
 inj:∀ k k' s s',mGet m k=some s→mGet m k'=some s'→s.1=s'.1→k=k'
abbrev absS(m:List (Str×Tl Lfd)):List (Str×List Lfd):=m.map fun e=>(e.1,e.2.2)
theorem Kts(m:List (Str×Tl Lfd))(k:Str):mGet (absS m) k=(mGet m k).map (·.2):=Ksp (fun s:Tl Lfd=>s.2) m k
theorem StoryOk.tags{t t':List Bool}{m:List (Str×Tl Lfd)}{c c':Nat}(h:StoryOk t m c)(hc:c≤c')(ht:∀ q:Nat,t[q]?=some true→t'[q]?=some true):StoryOk t' m c':=
 ⟨h.sm,fun k s hs=>let ⟨h1,h2,q,h3,h4⟩:=h.ok k s hs;⟨h1,by omega,q,h3,ht q h4⟩,h.inj⟩
theorem Ktt{t:List Bool}{m:List (Str×Tl Lfd)}{c:Nat}(h:StoryOk t m c)(hc:c<100000)(k:Str)(x:Lfd) :
  ∃ s' t',appT t ((mGet m k).getD (1,[])) [x]=some (s',t')∧StoryOk t' (mSet m k s') (c+1)∧absS (mSet m k s')=mSet (absS m) k ((mGet (absS m) k).getD []++[x])∧t.length≤t'.length:=by
 obtain⟨old,t0,e1,e2,e3,e4,e5⟩:∃ (old:List Lfd) (t0:List Bool),appT t ((mGet m k).getD (1,[])) [x]=some ((t.length+2,old++[x]),t0++[true])∧(mGet (absS m) k).getD []=old∧t0.length=t.length∧old.length≤c∧∀ k' s,k'≠k→mGet m k'=some s→∃ q,s.1=q+2∧t0[q]?=some true:=by
  cases hm:mGet m k with
  | none=>
   refine⟨[],t,?_,by rw[Kts,hm];rfl,rfl,Nat.zero_le _,fun k' s _ hs=>let ⟨_,_,q⟩:=h.ok k' s hs;q⟩
   unfold appT
   rw[Lbm (by simp)]
   rfl
  | some s=>
   obtain⟨g1,g2,q,g3,g4⟩:=h.ok k s hm
   obtain⟨tg,l⟩:=s
   simp only at g1 g2 g3
   subst g3
   refine⟨l,t.set q false,?_,by rw[Kts,hm];rfl,by simp,g2,fun k' s' hk hs=>?_⟩
   ·unfold appT
    simp only[Option.getD_some]
    rw[Lbm (by simp only[List.length_cons,List.length_nil];omega)]
    simp[g4]
   ·obtain⟨_,_,q',q1,q2⟩:=h.ok k' s' hs
    refine⟨q',q1,?_⟩
    rw[gSn]
    ·exact q2
    ·intro e
     subst e
     exact hk (h.inj k' k s' _ hs hm q1)
 refine⟨_,_,e1,⟨h.sm.set _ _,fun k' s hs=>?_,fun k1 k2 s1 s2 h1 h2 he=>?_⟩,?_,by simp[e3]⟩
 ·rw[Laq] at hs
  cases hk:k'==k with
  | true=>
   rw[hk] at hs
   cases hs
   exact⟨by simp,by simp;omega,t.length,rfl,by rw[←e3];simp⟩
  | false=>
   rw[hk] at hs
   have hne:k'≠k:=by simpa using hk
   obtain⟨g1,g2,_⟩:=h.ok k' s hs
   obtain⟨q,q1,q2⟩:=e5 k' s hne hs
   exact⟨g1,by omega,q,q1,by rw[gAl (gEs.1 q2).1];exact q2⟩
 ·have lt:∀ k' s,k'≠k→mGet m k'=some s→s.1<t.length+2:=fun k' s hk hs=>by
   obtain⟨q,q1,q2⟩:=e5 k' s hk hs
   have:=(gEs.1 q2).1
   omega
  rw[Laq] at h1 h2
  cases hk1:k1==k with
  | true=>
   rw[hk1] at h1
   cases h1
   cases hk2:k2==k with
   | true=>rw[beq_iff_eq.1 hk1,beq_iff_eq.1 hk2]
   | false=>
    rw[hk2] at h2
    have:=lt k2 s2 (by simpa using hk2) h2
    simp only at he;omega
  | false=>
   rw[hk1] at h1
   cases hk2:k2==k with
   | true=>
    rw[hk2] at h2
    cases h2
    have:=lt k1 s1 (by simpa using hk1) h1
    simp only at he;omega
   | false=>
    rw[hk2] at h2
    exact h.inj k1 k2 s1 s2 h1 h2 he
 ·rw[e2]
  exact Ksq (fun s:Tl Lfd=>s.2) h.sm k (t.length+2,old++[x])
structure RN(n:Lfe)(al:BagT)(A:Ab)(c:Nat):Prop where
 bag:BagOk al
 d:n.d=A.d
 us:∀ u,(mGet n.users u).getD false=A.d.Users.any fun x=>u==x
 ph:HOk al.2.1 n.passes
 ps:absH pass0 al.2.1 n.passes=A.ps
 th:n.there=A.th
 so:StoryOk al.1 n.story c
 st:absS n.story=A.st
theorem RN.up{n:Lfe}{al:BagT}{A:Ab}{c c':Nat}(h:RN n al A c)(hc:c≤c'):RN n al A c':=⟨h.bag,h.d,h.us,h.ph,h.ps,h.th,h.so.tags hc fun _ h=>h,h.st⟩
theorem RN.hi{n:Lfe}{al:BagT}{A:Ab}{c:Nat}(h:RN n al A c)(x:List (Str×List Lfk)):RN n al { A with hi:=x } c:=⟨h.bag,h.d,h.us,h.ph,h.ps,h.th,h.so,h.st⟩
section
variable{n:Lfe}{al:BagT}{A:Ab}{c:Nat}{s:Ley}
theorem Ktu(h:RN n al A c)(hc:c<100000)(z:Int)(m:Lfc)(key:Bool):∃ n' al',Lhy n z m key al=some (n',al')∧RN n' al' (setA A z m key) (c+1):=by
 obtain⟨s',t',e1,e2,e3,e4⟩:=Ktt h.so hc m.Node ⟨z,m,false,key⟩
 refine⟨⟨n.d,n.users,n.passes,mSet n.there m.Node m,mSet n.story m.Node s'⟩,(t',al.2),by unfold Lhy;rw[e1];rfl,⟨h.bag.up e4,h.d,h.us,h.ph,h.ps,?_,e2,?_⟩⟩
 ·show mSet n.there m.Node m=mSet A.th m.Node m
  rw[h.th]
 show absS (mSet n.story m.Node s')=mSet A.st m.Node ((mGet A.st m.Node).getD []++[⟨z,m,false,key⟩])
 rw[e3,h.st]
theorem Ktv(h:RN n al A c)(p:Str):Lhv n p=some (heldA A.th p):=by
 unfold Lhv
 rw[Lbv (fun e:Str×Lfc=>e.2.Public==p) true () n.there (fun x _=>by cases (x.2.Public==p)<;>rfl),h.th]
 unfold heldA
 cases (A.th.any fun e=>e.2.Public==p)<;>rfl
theorem Ktw(h:RN n al A c)(z:Int)(u:Str):Lhx n z u=some (lastA A.d z u):=by
 unfold Lhx lastA
 rw[h.d]
 cases (u==[])<;>rfl
theorem Ktx(h:RN n al A c)(u:Str)(l:List Str):Lie n u l=some (tagF A.d u l):=by
 have key:∀ (l:List Str) (i:Nat),rangeM (σ:=Unit) (ρ:=Int) (fun i1 x3 s2=>bi (Lid A.d u x3) fun y12=>bif !y12.2 then(bi (some 8) fun v=>some (.out v)) else(bif !y12.1 then(bi (some 16) fun v=>some (.out v)) else(some (.go ())))) i l ()=some (match tagF A.d u l with | 0=>.go () | e=>.out e):=by
  intro l
  induction l with
  | nil=>intro i;rfl
  | cons t l ih=>
   intro i
   simp only[rangeM,tagF]
   rw[Lbd]
   cases A.d.Owners.find? (fun o=>o.Tag==t) with
   | none=>rfl
   | some o=>
    cases hb:o.Users.any (fun x=>u==x) with
    | false=>simp only[hb];rfl
    | true=>simp only[hb];exact ih (i+1)
 unfold Lie
 rw[h.d,key l 0,bi_some]
 cases tagF A.d u l with
 | ofNat k=>cases k<;>rfl
 | negSucc k=>rfl
theorem Kty(a b:Str):(a==b)=(b==a):=by
 rw[Bool.eq_iff_iff,beq_iff_eq,beq_iff_eq];exact eq_comm
theorem Ktz(h:RN n al A c)(u:Str)(m:Lfc):Lik n u m=some (mng A.d u m):=by
 have hx:Lij m.Tags n u=some (m.Tags.any (ownT A.d u)):=by
  unfold Lij Lii
  rw[Lcu (ownT A.d u) m.Tags (fun j x _=>by
   unfold Lih
   rw[Lbd,h.d]
   unfold ownT
   cases A.d.Owners.find? (fun o=>o.Tag==x) with
   | none=>rfl
   | some o=>
    show(bif o.Users.any (fun y=>u==y) then some (LS.out (j:Int)) else some (LS.go ()))=some (if o.Users.any (fun y=>u==y)=true then LS.out (j:Int) else LS.go ())
    by_cases hq:o.Users.any (fun y=>u==y)=true
    ·rw[if_pos hq,hq];rfl
    rw[if_neg hq,Bool.eq_false_iff.2 hq];rfl),bi_some,Lcs]
 unfold Lik mng
 rw[Kty u m.User]
 cases (m.User==u) with
 | true=>rfl
 | false=>exact Lci hx rfl
theorem Kua(hv:StepV s):(bi (Lhc s.Uses 1 1000) fun y3=>bi (bif y3 then(some true) else(bi (Lhc s.Until (wi (s.At+1)) 345686400) fun y9=>some y9)) fun q5=>some q5)=some (badN s):=by
 unfold Lhc badN
 rw[Lbf (by have:=hv.z;omega) (by have:=hv.z;omega)]
 have e:(decide (s.Until<s.At+1))=decide (s.Until≤s.At):=by rw[decide_eq_decide];omega
 rw[e]
 simp only[bi_some]
 cases (decide (s.Uses<1)||decide (s.Uses>1000))<;>rfl
theorem Kub(h:RN n al A c)(hv:StepV s):∃ n' al',Lif n s al=some ((keyA A s).1,n',al')∧RN n' al' (keyA A s).2 c:=by
 unfold Lif keyA
 have hat:=h.ph.at pass0 s.Join
 rw[h.ps] at hat
 rcases hat with⟨e1,e2⟩ | ⟨a,x,e1,e2,e3,e4,e5⟩
 ·rw[e1,e2]
  simp only[beq_self_eq_true,Bool.not_true,cond_false]
  have hb:=Kua hv
  obtain⟨b3,hb3⟩:∃ b3,Lhc s.Uses 1 1000=some b3:=⟨_,rfl⟩
  rw[hb3,bi_some] at hb
  rw[hb3,bi_some]
  obtain⟨q,hq,hb⟩:=Kcp hb
  rw[hq,bi_some,oSi hb]
  cases badN s with
  | true=>exact⟨n,al,rfl,h⟩
  | false=>
   simp only[cond_false]
   rw[Ktx h,bi_some]
   cases tagF A.d s.By s.Tags != 0 with
   | true=>exact⟨n,al,rfl,h⟩
   | false=>
    simp only[cond_false]
    rw[Kto (Ktn hv.ok),bi_some]
    have hk:mGet n.passes s.Join=none:=by
     have:=Kst pass0 al.2.1 n.passes s.Join
     rw[h.ps,e1] at this
     cases hm:mGet n.passes s.Join with
     | none=>rfl
     | some v=>rw[hm] at this;cases this
    obtain⟨g1,g2⟩:=h.ph.new pass0 h.bag.p s.Join ⟨⟨s.Join,s.By,s.Tags,s.Until,s.Uses,s.Ready⟩,false,0⟩ hk
    refine⟨_,_,rfl,⟨⟨fun e he=>?_,fun e he=>?_,fun e he=>?_,fun e he=>?_⟩,h.d,h.us,g1,?_,h.th,h.so.tags (Nat.le_refl _) fun q hq=>by rw[gAl (gEs.1 hq).1];exact hq,h.st⟩⟩
    ·rcases List.mem_cons.1 he with rfl | he
     ·simp
     have:=h.bag.p e he;simp;omega
    ·have:=h.bag.r e he;simp;omega
    ·have:=h.bag.m e he;simp;omega
    ·have:=h.bag.k e he;simp;omega
    show absH pass0 _ _=mSet A.ps s.Join _
    rw[←h.ps];exact g2
 rw[e1,e3]
 have:(a==0)=false:=by simp;omega
 rw[this]
 exact⟨n,al,rfl,h⟩
theorem RN.passes(h:RN n al A c){k:Str}{a:Nat}(hm:mGet n.passes k=some a)(x:Lfg):RN n (al.1,hSet al.2.1 a x,al.2.2) { A with ps:=mSet A.ps k x } c:=by
 obtain⟨g1,g2⟩:=h.ph.set pass0 hm x
 refine⟨⟨Ksk h.bag.p,h.bag.r,h.bag.m,h.bag.k⟩,h.d,h.us,g1,?_,h.th,h.so,h.st⟩
 show absH pass0 _ _=mSet A.ps k x
 rw[←h.ps];exact g2
theorem Kuc{a:Nat}(h:0<a):Nat.blt 0 a=true:=nblt.2 h
theorem Kud(h:RN n al A c):∃ al',Lig n s al=some ((revA A s).1,al')∧RN n al' (revA A s).2 c:=by
 unfold Lig revA
 have hat:=h.ph.at pass0 s.Join
 rw[h.ps] at hat
 rcases hat with⟨e1,e2⟩ | ⟨a,x,e1,e2,e3,e4,e5⟩
 ·rw[e1,e2]
  exact⟨al,rfl,h⟩
 rw[e1,e3]
 have:(a==0)=false:=by simp;omega
 rw[this,Kuc e5,e4]
 simp only[cond_false,gd,cond_true,bi_some]
 cases ((x.Join.By:Str)==s.By) with
 | false=>exact⟨al,rfl,h⟩
 | true=>
  simp only[Bool.not_true,cond_false]
  cases x.revoked with
  | true=>exact⟨al,rfl,h⟩
  | false=>exact⟨_,rfl,h.passes e2 _⟩
end
end Go.Gk
namespace Go.Gk
section
variable{n:Lfe}{al:BagT}{A:Ab}{c:Nat}{s:Ley}
theorem Ksw(z:Int)(al:BagT):Lhu 0 z al=some 0:=rfl
theorem Ksx{a:Nat}{x:Lfg}(h:hGet al.2.1 a=some x)(ha:0<a)(z:Int):Lhu a z al=some (passF x z):=by
 unfold Lhu passF
 have:(a==0)=false:=by simp;omega
 rw[this,Kuc ha,h]
 simp only[cond_false,gd,cond_true,bi_some]
 cases x.revoked with
 | true=>rfl
 | false=>
  simp only[cond_false,bi_some,Bool.false_or]
  cases decide (z≥x.Join.Until) with
  | true=>rfl
  | false=>cases decide (x.used≥x.Join.Left)<;>rfl
theorem Ksy(h:RN n al A c)(k:Str):isNilT ((mGet n.story k).getD (1,[]))=some (!(mGet A.st k).isSome):=by
 rw[←h.st,Kts]
 cases hm:mGet n.story k with
 | none=>rfl
 | some x=>
  obtain⟨g1,_⟩:=h.so.ok k x hm
  obtain⟨t,l⟩:=x
  cases l with
  | nil=>exact absurd rfl g1
  | cons y l=>rfl
theorem Ksz(h:RN n al A c)(hc:c<100000)(op:Option Lfg){al1:BagT}{m:Lfc}{A1:Ab}(h1:RN n al1 A1 c)(hd:A1.d=A.d)(z:Int)(e:A1.hi=A.hi)(x:List Lfk)(hn:m.Node=s.Node) :
  ∃ n' al',(bi (Lhx n z m.User) fun y67=>bi (Lhy n z (⟨m.Node,m.User,m.Name,m.Public,m.Tags,m.Joined,y67,m.Approved⟩:Lfc) true al1) fun y69=>some ((0:Int),y69.1,y69.2))=some (0,n',al')∧
   RN n' al' { setA A1 z ⟨m.Node,m.User,m.Name,m.Public,m.Tags,m.Joined,lastA A.d z m.User,m.Approved⟩ true with hi:=mSet A.hi s.Node x } (c+1):=by
 rw[Ktw h,bi_some]
 obtain⟨n',al',e1,e2⟩:=Ktu h1 hc z ⟨m.Node,m.User,m.Name,m.Public,m.Tags,m.Joined,lastA A.d z m.User,m.Approved⟩ true
 exact⟨n',al',by rw[e1];rfl,e2.hi _⟩
theorem Kta(h:RN n al A c)(hI:AInv A)(hc:c<100000):∃ n' al',Lhz n s al=some ((joinA A s).1,n',al')∧RN n' al' (joinA A s).2 (c+1):=by
 unfold Lhz joinA
 cases ((s.By:Str)==[]:Bool)==((s.Join:Str)==[]) with
 | true=>exact⟨n,al,rfl,h.up (by omega)⟩
 | false=>
  simp only[cond_false]
  have hat:=h.ph.at pass0 s.Join
  rw[h.ps] at hat
  have hu:=h.us s.By
  have hq:(bif !((s.By:Str)==[]) then(bif !((mGet n.users s.By).getD false) then(some true) else(bif (s.By:Str)==[] then(some (((mGet n.passes s.Join).getD 0)==0)) else(some false))) else(bif (s.By:Str)==[] then(some (((mGet n.passes s.Join).getD 0)==0)) else(some false))) =
    some (bif (s.By:Str)==[] then(mGet A.ps s.Join).isNone else !(A.d.Users.any fun x=>s.By==x)):=by
   rw[hu]
   have hz:(((mGet n.passes s.Join).getD 0)==0)=(mGet A.ps s.Join).isNone:=by
    rcases hat with⟨e1,e2⟩ | ⟨a,x,e1,e2,e3,e4,e5⟩
    ·rw[e1,e2];rfl
    ·rw[e1,e3];simp;omega
   rw[hz]
   cases ((s.By:Str)==[]) with
   | true=>rfl
   | false=>cases (A.d.Users.any fun x=>s.By==x)<;>rfl
  rw[hq,bi_some]
  cases (bif (s.By:Str)==[] then(mGet A.ps s.Join).isNone else !(A.d.Users.any fun x=>s.By==x)) with
  | true=>exact⟨n,al,rfl,h.up (by omega)⟩
  | false=>
   simp only[cond_false]
   have body:∀ (op:Option Lfg) (rest:Option (BagT×Lfc)),(∃ al1 m A1,rest=some (al1,m)∧RN n al1 A1 c∧A1.d=A.d∧A1.hi=A.hi∧m.Node=s.Node∧joinC A s op={ setA A1 s.At ⟨m.Node,m.User,m.Name,m.Public,m.Tags,m.Joined,lastA A.d s.At m.User,m.Approved⟩ true with hi:=mSet A.hi s.Node [⟨s.Public,s.At,345686400⟩] })→
     ∃ n' al',(bi (isNilT ((mGet n.story s.Node).getD (1,[]))) fun b19=>bif !b19 then(some ((6:Int),n,al)) else(bi (Lhv n s.Public) fun y23=>bif y23 then(some (13,n,al)) else(bif decide (((n.there.length:Int):Int)≥500) then(some (2,n,al)) else(bi rest fun q29=>bi (Lhx n s.At q29.2.User) fun y67=>bi (Lhy n s.At (⟨q29.2.Node,q29.2.User,q29.2.Name,q29.2.Public,q29.2.Tags,q29.2.Joined,y67,q29.2.Approved⟩:Lfc) true q29.1) fun y69=>some (0,y69.1,y69.2)))))=some ((joinB A s op).1,n',al')∧RN n' al' (joinB A s op).2 (c+1):=by
    rintro op rest ⟨al1,m,A1,rfl,h1,h2,h3,h4,h5⟩
    unfold joinB
    rw[Ksy h,bi_some,Bool.not_not]
    cases (mGet A.st s.Node).isSome with
    | true=>exact⟨n,al,rfl,h.up (by omega)⟩
    | false=>
     simp only[cond_false]
     rw[Ktv h,bi_some]
     cases heldA A.th s.Public with
     | true=>exact⟨n,al,rfl,h.up (by omega)⟩
     | false=>
      simp only[cond_false]
      rw[h.th]
      cases decide ((A.th.length:Int)≥500) with
      | true=>exact⟨n,al,rfl,h.up (by omega)⟩
      | false=>
       simp only[cond_false,bi_some]
       obtain⟨n',al',e1,e2⟩:=Ksz h hc op h1 h2 s.At h3 [⟨s.Public,s.At,345686400⟩] h4
       exact⟨n',al',e1,by rw[h5];exact e2⟩
   rcases hat with⟨e1,e2⟩ | ⟨a,x,e1,e2,e3,e4,e5⟩
   ·rw[e1,e2,Ksw,bi_some]
    simp only[bne_self_eq_false,cond_false]
    refine body none _ ⟨al,⟨s.Node,s.By,s.Name,s.Public,[],s.At,0,!n.d.Approve⟩,A,rfl,h,rfl,rfl,rfl,?_⟩
    unfold joinC joinM
    rw[h.d]
   rw[e1,e3,Ksx e4 e5,bi_some]
   simp only
   cases passF x s.At != 0 with
   | true=>exact⟨n,al,rfl,h.up (by omega)⟩
   | false=>
    simp only[cond_false]
    have hx:=(hI.ps _ _ e1).2.2
    have h0:(a==0)=false:=by simp;omega
    refine body (some x) _ ⟨(al.1,hSet al.2.1 a ⟨x.Join,x.revoked,wi (x.used+1)⟩,al.2.2),⟨s.Node,bif (x.Join.Tags.length:Int)==0 then x.Join.By else s.By,s.Name,s.Public,x.Join.Tags,s.At,0,!A.d.Approve||x.Join.Ready⟩,{ A with ps:=mSet A.ps s.Join ⟨x.Join,x.revoked,wi (x.used+1)⟩ },?_,h.passes e2 _,rfl,rfl,rfl,rfl⟩
    have g1:hGet (hSet al.2.1 a (⟨x.Join,x.revoked,wi (x.used+1)⟩:Lfg)) a=some ⟨x.Join,x.revoked,wi (x.used+1)⟩:=by rw[Ksj _ _ _ _ _ e4,if_pos rfl]
    rw[h0,Kuc e5]
    simp only[Bool.not_false,cond_true,gd,e4,bi_some,g1]
    rw[Kto hx,h.d]
    simp only[bi_some]
    cases ((x.Join.Tags.length:Int)==0)<;>cases A.d.Approve<;>rfl
theorem Ktb(h:RN n al A c)(hv:StepV s)(hc:c<100000)(m:Lfc):∃ n' al',Lil n s m al=some ((turnA A s m).1,n',al')∧RN n' al' (turnA A s m).2 (c+1):=by
 have fin:∀ (m':Lfc) (key:Bool),∃ n' al',(bi (Lhy n s.At m' key al) fun y50=>some ((0:Int),y50.1,y50.2))=some (0,n',al')∧RN n' al' (setA A s.At m' key) (c+1):=fun m' key=>by
  obtain⟨n',al',e1,e2⟩:=Ktu h hc s.At m' key
  exact⟨n',al',by rw[e1];rfl,e2⟩
 unfold Lil turnA
 cases (s.Kind:Int)==4 with
 | true=>
  simp only[cond_true]
  cases m.Approved with
  | true=>exact⟨n,al,rfl,h.up (by omega)⟩
  | false=>exact fin _ _
 | false=>
  simp only[cond_false]
  cases (s.Kind:Int)==5 with
  | true=>
   simp only[cond_true]
   rw[Ktv h,bi_some]
   cases heldA A.th s.Public with
   | true=>exact⟨n,al,rfl,h.up (by omega)⟩
   | false=>
    simp only[cond_false]
    rw[Ktw h,bi_some]
    obtain⟨n',al',e1,e2⟩:=fin ⟨m.Node,m.User,m.Name,s.Public,m.Tags,m.Joined,lastA A.d s.At m.User,m.Approved⟩ true
    exact⟨n',al',e1,e2.hi _⟩
  | false=>
   simp only[cond_false]
   cases (s.Kind:Int)==6 with
   | true=>
    simp only[cond_true]
    cases (m.Name:Str)==s.Name with
    | true=>exact⟨n,al,rfl,h.up (by omega)⟩
    | false=>exact fin _ _
   | false=>
    simp only[cond_false]
    cases (s.Kind:Int)==7 with
    | true=>
     simp only[cond_true]
     cases (s.Tags.length:Int)==0 with
     | true=>exact⟨n,al,rfl,h.up (by omega)⟩
     | false=>
      simp only[cond_false]
      rw[Ktx h,bi_some]
      cases tagF A.d s.By s.Tags != 0 with
      | true=>exact⟨n,al,rfl,h.up (by omega)⟩
      | false=>
       simp only[cond_false]
       rw[Kto (Ktn hv.ok),bi_some]
       exact fin _ _
    | false=>
     simp only[cond_false]
     cases (s.Kind:Int)==8 with
     | true=>
      simp only[cond_true]
      cases decide (m.Expires≤s.At) with
      | true=>exact⟨n,al,rfl,h.up (by omega)⟩
      | false=>exact fin _ _
     | false=>
      simp only[cond_false]
      obtain⟨s',t',e1,e2,e3,e4⟩:=Ktt h.so hc s.Node ⟨s.At,⟨[],[],[],[],[],0,0,false⟩,true,false⟩
      rw[e1]
      refine⟨⟨n.d,n.users,n.passes,mDel n.there s.Node,mSet n.story s.Node s'⟩,(t',al.2),rfl,⟨h.bag.up e4,h.d,h.us,h.ph,h.ps,?_,e2,?_⟩⟩
      ·show mDel n.there s.Node=mDel A.th s.Node
       rw[h.th]
      show absS (mSet n.story s.Node s')=mSet A.st s.Node ((mGet A.st s.Node).getD []++_)
      rw[e3,h.st]
theorem Ktc(h:RN n al A c)(hI:AInv A)(hv:StepV s)(hc:c<100000):∃ n' al',Lim n s al=some ((stepA A s).1,n',al')∧RN n' al' (stepA A s).2 (c+1):=by
 unfold Lim stepA
 cases (s.Kind:Int)==3 with
 | true=>
  obtain⟨n',al',e1,e2⟩:=Kta (s:=s) h hI hc
  exact⟨n',al',by simp only[cond_true];rw[e1];rfl,e2⟩
 | false=>
  simp only[cond_false]
  rw[h.us s.By]
  cases (A.d.Users.any fun x=>s.By==x) with
  | false=>exact⟨n,al,rfl,h.up (by omega)⟩
  | true=>
   simp only[Bool.not_true,cond_false]
   cases (s.Kind:Int)==1 with
   | true=>
    obtain⟨n',al',e1,e2⟩:=Kub h hv
    exact⟨n',al',by simp only[cond_true];rw[e1];rfl,e2.up (by omega)⟩
   | false=>
    simp only[cond_false]
    cases (s.Kind:Int)==2 with
    | true=>
     obtain⟨al',e1,e2⟩:=Kud (s:=s) h
     exact⟨n,al',by simp only[cond_true];rw[e1];rfl,e2.up (by omega)⟩
    | false=>
     simp only[cond_false]
     rw[h.th]
     cases hm:mGet A.th s.Node with
     | none=>exact⟨n,al,rfl,h.up (by omega)⟩
     | some m=>
      simp only[Option.isSome_some,Bool.not_true,cond_false,Option.getD_some]
      have hq:(bif (s.Kind:Int) != 4 then(bi (Lik n s.By m) fun y20=>some (!y20)) else(some false))=some ((s.Kind:Int) != 4&&!mng A.d s.By m):=by
       rw[Ktz h]
       cases (s.Kind:Int) != 4<;>rfl
      rw[hq,bi_some]
      cases ((s.Kind:Int) != 4&&!mng A.d s.By m) with
      | true=>exact⟨n,al,rfl,h.up (by omega)⟩
      | false=>
       obtain⟨n',al',e1,e2⟩:=Ktb h hv hc m
       exact⟨n',al',by simp only[cond_false];rw[e1];rfl,e2⟩
end
end Go.Gk
namespace Go.Gk
theorem HOk.repl{X:Type}(x0:X){ar:List (Nat×X)}{m:List (Str×Nat)}{b a:Nat}{k:Str}(h:HOk ar m)(hb:∀ e∈ar,e.1<b)(hm:mGet m k=some a)(x y:X) :
  HOk ((b,x) :: hDel (hSet ar a y) a) (mSet m k (b+1))∧absH x0 ((b,x) :: hDel (hSet ar a y) a) (mSet m k (b+1))=mSet (absH x0 ar m) k x:=by
 obtain⟨z0,hz0⟩:=h.ok k a hm
 have old:∀ k' a',k'≠k→mGet m k'=some a'→a'≠b+1∧hGet ((b,x) :: hDel (hSet ar a y) a) a'=hGet ar a':=fun k' a' hk ha=>by
  obtain⟨z,hz⟩:=h.ok k' a' ha
  have h1:=Ksn hb hz
  have h2:a'≠a:=fun e=>hk (h.inj k' k a' ha (e▸hm))
  exact⟨h1,by rw[Ksi _ _ _ _ h1,Kso h2,Ksj _ _ _ _ _ hz0,if_neg h2]⟩
 have hne:∀ {k':Str},(k'==k)=false→k'≠k:=fun h e=>by subst e;simp at h
 refine⟨⟨h.sm.set _ _,fun k' a' hg=>?_,fun k1 k2 a' h1 h2=>?_⟩,SM.ext (Ksu x0 _ (h.sm.set _ _)) ((Ksu x0 _ h.sm).set k x) fun k'=>?_⟩
 ·rw[Laq] at hg
  split at hg
  ·cases hg;exact⟨x,Ksh _ _ _⟩
  ·rename_i hq
   rw[(old k' a' (hne (Bool.eq_false_iff.2 hq)) hg).2];exact h.ok k' a' hg
 ·rw[Laq] at h1 h2
  split at h1<;>split at h2
  ·rename_i q1 q2;rw[beq_iff_eq.1 q1,beq_iff_eq.1 q2]
  ·rename_i q1 q2;cases h1;exact absurd rfl (old k2 _ (hne (Bool.eq_false_iff.2 q2)) h2).1
  ·rename_i q1 q2;cases h2;exact absurd rfl (old k1 _ (hne (Bool.eq_false_iff.2 q1)) h1).1
  ·exact h.inj k1 k2 a' h1 h2
 ·have e1:mGet (absH x0 ((b,x) :: hDel (hSet ar a y) a) (mSet m k (b+1))) k'=_:=Kst x0 _ _ k'
  have e2:mGet (mSet (absH x0 ar m) k x) k'=_:=Laq _ _ _ _
  refine e1.trans (Eq.trans ?_ e2.symm)
  rw[Kst,Laq]
  cases hq:k'==k with
  | true=>simp only[if_true,Option.map_some,Ksh];rfl
  | false=>
   simp only[Bool.false_eq_true,if_false]
   cases hk':mGet m k' with
   | none=>rfl
   | some a'=>simp only[Option.map_some,(old k' a' (hne hq) hk').2]
def key0:Lfj:=⟨⟨[],[],[],0,0,false⟩,false,0⟩
def mac0:Lfc:=⟨[],[],[],[],[],0,0,false⟩
def k2p(x:Lfj):Lfg:=⟨x.Join,x.revoked,x.used⟩
abbrev hdl(m:List (Str×Vl)):List (Str×Nat):=m.map fun e=>(e.1,e.2.1)
theorem Kru(m:List (Str×Vl))(k:Str):mGet (hdl m) k=(mGet m k).map (·.1):=Ksp (fun v:Vl=>v.1) m k
structure RH(v:Lfh)(al:BagT)(A:Ab)(c:Nat):Prop where
 bag:BagOk al
 d:v.d=A.d
 kh:HOk al.2.2.2.2.1 v.keys
 ks:(absH key0 al.2.2.2.2.1 v.keys).map (fun e=>(e.1,k2p e.2))=A.ps
 nh:HOk al.2.2.2.1 v.nodes
 ns:absH mac0 al.2.2.2.1 v.nodes=A.th
 ev:∀ k,(mGet v.ever k).getD false=(mGet A.st k).isSome
 hs:SM v.History
 hh:HOk al.2.2.1 (hdl v.History)
 hl:∀ k w,mGet v.History k=some w→∃ z,hGet al.2.2.1 w.1=some z∧z.length=w.2∧z≠[]∧z.length≤c
 hi:absH [] al.2.2.1 (hdl v.History)=A.hi
section
variable{v:Lfh}{al:BagT}{A:Ab}{c:Nat}{s:Ley}
theorem RH.up{c':Nat}(h:RH v al A c)(hc:c≤c'):RH v al A c':=⟨h.bag,h.d,h.kh,h.ks,h.nh,h.ns,h.ev,h.hs,h.hh,fun k w hw=>let ⟨z,h1,h2,h3,h4⟩:=h.hl k w hw;⟨z,h1,h2,h3,by omega⟩,h.hi⟩
theorem RH.stc(h:RH v al A c){st:List (Str×List Lfd)}(hs:∀ k,(mGet st k).isSome=(mGet A.st k).isSome):RH v al { A with st:=st } c:=⟨h.bag,h.d,h.kh,h.ks,h.nh,h.ns,fun k=>(h.ev k).trans (hs k).symm,h.hs,h.hh,h.hl,h.hi⟩
theorem RH.mach(h:RH v al A c){k:Str}{a:Nat}(hm:mGet v.nodes k=some a)(x:Lfc):RH v (al.1,al.2.1,al.2.2.1,hSet al.2.2.2.1 a x,al.2.2.2.2) { A with th:=mSet A.th k x } c:=by
 obtain⟨g1,g2⟩:=h.nh.set mac0 hm x
 refine⟨⟨h.bag.p,h.bag.r,Ksk h.bag.m,h.bag.k⟩,h.d,h.kh,h.ks,g1,?_,h.ev,h.hs,h.hh,h.hl,h.hi⟩
 show absH mac0 _ _=mSet A.th k x
 rw[←h.ns];exact g2
theorem RH.keyc(h:RH v al A c){k:Str}{a:Nat}(hm:mGet v.keys k=some a)(x:Lfj):RH v (al.1,al.2.1,al.2.2.1,al.2.2.2.1,hSet al.2.2.2.2.1 a x,al.2.2.2.2.2) { A with ps:=mSet A.ps k (k2p x) } c:=by
 obtain⟨g1,g2⟩:=h.kh.set key0 hm x
 refine⟨⟨h.bag.p,h.bag.r,h.bag.m,Ksk h.bag.k⟩,h.d,g1,?_,h.nh,h.ns,h.ev,h.hs,h.hh,h.hl,h.hi⟩
 show(absH key0 _ _).map _=mSet A.ps k (k2p x)
 rw[g2,←h.ks]
 exact Ksq k2p (Ksu _ _ h.kh.sm) k x
theorem RH.kat(h:RH v al A c)(k:Str):(mGet A.ps k=none∧(mGet v.keys k).getD 0=0∧mGet v.keys k=none)∨∃ a x,mGet A.ps k=some (k2p x)∧mGet v.keys k=some a∧(mGet v.keys k).getD 0=a∧hGet al.2.2.2.2.1 a=some x∧0<a∧(a==0)=false:=by
 have e:mGet A.ps k=(mGet (absH key0 al.2.2.2.2.1 v.keys) k).map k2p:=by rw[←h.ks];exact Ksp k2p _ k
 rcases h.kh.at key0 k with⟨e1,e2⟩ | ⟨a,x,e1,e2,e3,e4,e5⟩
 ·refine .inl ⟨by rw[e,e1];rfl,e2,?_⟩
  rw[Kst] at e1
  cases hm:mGet v.keys k with
  | none=>rfl
  | some q=>rw[hm] at e1;cases e1
 exact .inr ⟨a,x,by rw[e,e1];rfl,e2,e3,e4,e5,by simp;omega⟩
theorem RH.nat(h:RH v al A c)(k:Str):(mGet A.th k=none∧(mGet v.nodes k).getD 0=0∧mGet v.nodes k=none)∨∃ a x,mGet A.th k=some x∧mGet v.nodes k=some a∧(mGet v.nodes k).getD 0=a∧hGet al.2.2.2.1 a=some x∧0<a∧(a==0)=false:=by
 have hat:=h.nh.at mac0 k
 rw[h.ns] at hat
 rcases hat with⟨e1,e2⟩ | ⟨a,x,e1,e2,e3,e4,e5⟩
 ·refine .inl ⟨e1,e2,?_⟩
  rw[←h.ns,Kst] at e1
  cases hm:mGet v.nodes k with
  | none=>rfl
  | some q=>rw[hm] at e1;cases e1
 exact .inr ⟨a,x,e1,e2,e3,e4,e5,by simp;omega⟩
theorem Krv(d:Lex)(u:Str)(l:List Str):Ljq d u l=some (tagF d u l):=by
 have key:∀ (l:List Str) (i:Nat),rangeM (σ:=Unit) (ρ:=Int) (fun i1 x3 s2=>bi (Ljp d x3) fun y12=>bif !y12.2 then(bi (some 8) fun v=>some (.out v)) else(bi (Lgj y12.1 u) fun y18=>bif !y18 then(bi (some 16) fun v=>some (.out v)) else(some (.go ())))) i l ()=some (match tagF d u l with | 0=>.go () | e=>.out e):=by
  intro l
  induction l with
  | nil=>intro i;rfl
  | cons t l ih=>
   intro i
   simp only[rangeM,tagF]
   rw[Lbe]
   cases d.Owners.find? (fun o=>o.Tag==t) with
   | none=>rfl
   | some o=>
    simp only[bi_some,Bool.not_true,cond_false]
    rw[Las]
    cases hb:o.Users.any (fun x=>u==x) with
    | false=>rfl
    | true=>
     simp only[bi_some,Bool.not_true,cond_false,cond_true]
     exact ih (i+1)
 unfold Ljq
 rw[key l 0,bi_some]
 cases tagF d u l with
 | ofNat k=>cases k<;>rfl
 | negSucc k=>rfl
theorem Krw(d:Lex)(u:Str)(m:Lfc):Ljx d u m=some (mng d u m):=by
 have hx:Ljw m.Tags d u=some (m.Tags.any (ownT d u)):=by
  unfold Ljw Ljv
  rw[Lcu (ownT d u) m.Tags (fun j x _=>by
   unfold Lju
   rw[Lbe]
   unfold ownT
   cases d.Owners.find? (fun o=>o.Tag==x) with
   | none=>simp only[bi_some];rw[Las];rfl
   | some o=>
    simp only[bi_some]
    rw[Las]
    show(bif o.Users.any (fun y=>u==y) then some (LS.out (j:Int)) else some (LS.go ()))=some (if o.Users.any (fun y=>u==y)=true then LS.out (j:Int) else LS.go ())
    by_cases hq:o.Users.any (fun y=>u==y)=true
    ·rw[if_pos hq,hq];rfl
    rw[if_neg hq,Bool.eq_false_iff.2 hq];rfl),bi_some,Lcs]
 unfold Ljx mng
 cases (m.User==u) with
 | true=>rfl
 | false=>simp only[cond_false];rw[hx];rfl
theorem Krx(h:RH v al A c)(p:Str):Ljs v p al=some (heldA A.th p):=by
 unfold Ljs
 rw[Lbv (fun e:Str×Nat=>((hGet al.2.2.2.1 e.2).getD mac0).Public==p) true () v.nodes (fun e he=>by
  obtain⟨x,hx⟩:=h.nh.ok e.1 e.2 (h.nh.sm.get he)
  rw[Kuc (Kla hx),hx]
  simp only[gd,cond_true,bi_some,Option.getD_some]
  cases (x.Public==p)<;>rfl)]
 have e:(v.nodes.any fun e=>((hGet al.2.2.2.1 e.2).getD mac0).Public==p)=heldA A.th p:=by
  unfold heldA
  rw[←h.ns]
  exact(List.any_map (f:=fun e:Str×Nat=>(e.1,(hGet al.2.2.2.1 e.2).getD mac0)) (l:=v.nodes) (p:=fun e=>e.2.Public==p)).symm
 rw[e]
 cases heldA A.th p<;>rfl
theorem badH(s:Ley):(bi (Lgk s.Uses 1 1000) fun y35=>some (((!y35)||(decide ((s.Until:Int)≤s.At)))||(decide ((s.Until:Int)>345686400))))=some (badN s):=by
 unfold Lgk badN
 rw[bi_some]
 congr 1
 have e:(!(decide (1≤s.Uses)&&decide (s.Uses≤1000)))=(decide (s.Uses<1)||decide (s.Uses>1000)):=by
  rw[Bool.eq_iff_iff];simp
 rw[e,Bool.or_assoc]
theorem Kry(h:RH v al A c)(hv:StepV s)(hk:s.Kind=1∨s.Kind=2):∃ v' al',Ljr v s al=some ((stepA A s).1,v',al')∧RH v' al' (stepA A s).2 c:=by
 unfold Ljr stepA
 rw[Las,h.d,bi_some]
 have k3:((s.Kind:Int)==3)=false:=by rcases hk with e | e<;>rw[e]<;>rfl
 rw[k3]
 simp only[cond_false]
 cases (A.d.Users.any fun x=>s.By==x) with
 | false=>exact⟨v,al,rfl,h⟩
 | true=>
  simp only[Bool.not_true,cond_false]
  have hat:=h.kat s.Join
  rcases hk with e | e
  ·have k2:((s.Kind:Int)==2)=false:=by rw[e];rfl
   have k1:((s.Kind:Int)==1)=true:=by rw[e];rfl
   rw[k1,k2]
   simp only[Bool.false_and,cond_false,cond_true,bi_some]
   unfold keyA
   rcases hat with⟨e1,e2,e3⟩ | ⟨a,x,e1,e2,e3,e4,e5,e6⟩
   ·rw[e1,e2]
    simp only[beq_self_eq_true,Bool.not_true,cond_false]
    have hb:=badH s
    obtain⟨y,hy⟩:∃ y,Lgk s.Uses 1 1000=some y:=⟨_,rfl⟩
    rw[hy,bi_some] at hb
    rw[hy,bi_some,oSi hb]
    cases badN s with
    | true=>exact⟨v,al,rfl,h⟩
    | false=>
     simp only[cond_false]
     rw[Krv,bi_some]
     cases tagF A.d s.By s.Tags != 0 with
     | true=>exact⟨v,al,rfl,h⟩
     | false=>
      simp only[cond_false]
      rw[Kto (Ktn hv.ok),bi_some]
      obtain⟨g1,g2⟩:=h.kh.new key0 h.bag.k s.Join ⟨⟨s.Join,s.By,s.Tags,s.Until,s.Uses,s.Ready⟩,false,0⟩ e3
      refine⟨⟨A.d,mSet v.keys s.Join (al.1.length+1),v.nodes,v.ever,v.History⟩,_,rfl,⟨⟨fun e he=>?_,fun e he=>?_,fun e he=>?_,fun e he=>?_⟩,rfl,g1,?_,h.nh,h.ns,h.ev,h.hs,h.hh,h.hl,h.hi⟩⟩
      ·have:=h.bag.p e he;simp;omega
      ·have:=h.bag.r e he;simp;omega
      ·have:=h.bag.m e he;simp;omega
      ·rcases List.mem_cons.1 he with rfl | he
       ·simp
       have:=h.bag.k e he;simp;omega
      show(absH key0 _ _).map _=mSet A.ps s.Join _
      rw[g2,←h.ks]
      exact Ksq k2p (Ksu _ _ h.kh.sm) s.Join _
   rw[e1,e3,e6]
   exact⟨v,al,rfl,h⟩
  have k2:((s.Kind:Int)==2)=true:=by rw[e];rfl
  have k1:((s.Kind:Int)==1)=false:=by rw[e];rfl
  rw[k1,k2]
  simp only[Bool.true_and,cond_false,cond_true,bi_some]
  unfold revA
  rcases hat with⟨e1,e2,e3⟩ | ⟨a,x,e1,e2,e3,e4,e5,e6⟩
  ·rw[e1,e2]
   exact⟨v,al,rfl,h⟩
  rw[e1,e3,e6,Kuc e5,e4]
  simp only[cond_false,gd,cond_true,bi_some,k2p]
  cases ((x.Join.By:Str)==s.By) with
  | false=>exact⟨v,al,rfl,h⟩
  | true=>
   simp only[Bool.not_true,cond_false]
   cases x.revoked with
   | true=>exact⟨v,al,rfl,h⟩
   | false=>exact⟨v,_,rfl,h.keyc e2 _⟩
end
end Go.Gk
namespace Go.Gk
section
variable{v:Lfh}{al:BagT}{A:Ab}{c:Nat}{s:Ley}
theorem Krz(d:Lex)(z:Int){u:Str}(hu:u≠[]):(if 345686400<wi (z+d.Life) then(345686400:Int) else wi (z+d.Life))=lastA d z u:=by
 unfold lastA
 have:(u==[])=false:=by simpa using hu
 rw[this,cond_false]
 split<;>split<;>omega
theorem Ksa{X:Type}{ar:List (Nat×X)}{a:Nat}{x y:X}(h:hGet ar a=some x):hGet (hSet ar a y) a=some y:=by rw[Ksj _ _ _ _ _ h,if_pos rfl]
theorem RH.joined(h:RH v al A c)(hI:AInv A)(k:Str)(m:Lfc)(x:Lfk)(z:Int)(hm:m.Node=k)(hn:(mGet A.st k).isSome=false) :
  RH ⟨v.d,v.keys,mSet v.nodes k (al.1.length+1),mSet v.ever k true,mSet v.History k ((al.1++[false]).length+1,[x].length)⟩ ((al.1++[false])++[true],al.2.1,((al.1++[false]).length,[x]) :: al.2.2.1,(al.1.length,m) :: al.2.2.2.1,al.2.2.2.2.1,al.2.2.2.2.2)
   { setA A z m true with hi:=mSet A.hi k [x] } (c+1):=by
 have hth:mGet v.nodes k=none:=by
  rcases h.nat k with⟨_,_,e⟩ | ⟨a,y,e1,_⟩
  ·exact e
  ·have:=(hI.th k y e1).2.1
   rw[hn] at this;cases this
 have hhi:mGet v.History k=none:=by
  have h1:=hI.hst k
  rw[hn,←h.hi,Kst,Kru] at h1
  cases hq:mGet v.History k with
  | none=>rfl
  | some w=>rw[hq] at h1;cases h1
 obtain⟨g1,g2⟩:=h.nh.new mac0 h.bag.m k m hth
 have hb:∀ e∈al.2.2.1,e.1<(al.1++[false]).length:=fun e he=>by have:=h.bag.r e he;simp;omega
 obtain⟨r1,r2⟩:=h.hh.new [] hb k [x] (by rw[Kru,hhi];rfl)
 have hmap:hdl (mSet v.History k ((al.1++[false]).length+1,[x].length))=mSet (hdl v.History) k ((al.1++[false]).length+1):=Ksq (fun w:Vl=>w.1) h.hs k _
 refine⟨⟨fun e he=>?_,fun e he=>?_,fun e he=>?_,fun e he=>?_⟩,h.d,h.kh,h.ks,g1,?_,fun k'=>?_,h.hs.set _ _,by rw[hmap];exact r1,fun k' w hw=>?_,by rw[hmap];exact r2.trans (by rw[h.hi])⟩
 ·have:=h.bag.p e he;simp;omega
 ·rcases List.mem_cons.1 he with rfl | he
  ·simp
  ·have:=h.bag.r e he;simp;omega
 ·rcases List.mem_cons.1 he with rfl | he
  ·simp
  ·have:=h.bag.m e he;simp;omega
 ·have:=h.bag.k e he;simp;omega
 ·show absH mac0 _ _=mSet A.th m.Node m
  rw[g2,h.ns,hm]
 ·show(mGet (mSet v.ever k true) k').getD false=(mGet (mSet A.st m.Node _) k').isSome
  rw[Laq,Laq,hm]
  cases k'==k with
  | true=>rfl
  | false=>exact h.ev k'
 ·rw[Laq] at hw
  cases hq:k'==k with
  | true=>
   rw[hq] at hw
   cases hw
   exact⟨[x],Ksh _ _ _,rfl,by simp,by simp⟩
  | false=>
   rw[hq] at hw
   obtain⟨z,z1,z2,z3,z4⟩:=h.hl k' w hw
   refine⟨z,?_,z2,z3,by omega⟩
   rw[Ksi _ _ _ _ (Ksn hb z1)]
   exact z1
theorem Ksb(h:RH v al A c)(hI:AInv A):∃ v' al',Ljt v s al=some ((joinA A s).1,v',al')∧RH v' al' (joinA A s).2 (c+1):=by
 unfold Ljt joinA
 cases hbj:((s.By:Str)==[]:Bool)==((s.Join:Str)==[]) with
 | true=>exact⟨v,al,rfl,h.up (by omega)⟩
 | false=>
  simp only[cond_false]
  have hat:=h.kat s.Join
  have hz:(((mGet v.keys s.Join).getD 0)==0)=(mGet A.ps s.Join).isNone:=by
   rcases hat with⟨e1,e2,_⟩ | ⟨a,x,e1,e2,e3,e4,e5,e6⟩
   ·rw[e1,e2];rfl
   rw[e1,e3,e6];rfl
  have hq:(bif !((s.By:Str)==[]) then(bi (Lgj v.d.Users s.By) fun y6=>bif !y6 then(some true) else(bif !((s.Join:Str)==[]) then(some (((mGet v.keys s.Join).getD 0)==0)) else(some false))) else(bif !((s.Join:Str)==[]) then(some (((mGet v.keys s.Join).getD 0)==0)) else(some false))) =
    some (bif (s.By:Str)==[] then(mGet A.ps s.Join).isNone else !(A.d.Users.any fun x=>s.By==x)):=by
   rw[hz,Las,h.d]
   cases hb:((s.By:Str)==[]) with
   | true=>
    have hj:((s.Join:Str)==[])=false:=by rw[hb] at hbj;simpa using hbj
    rw[hj];rfl
   | false=>
    have hj:((s.Join:Str)==[])=true:=by rw[hb] at hbj;simpa using hbj
    rw[hj]
    simp only[bi_some,Bool.not_true,Bool.not_false,cond_true,cond_false]
    cases (A.d.Users.any fun x=>s.By==x)<;>rfl
  rw[hq,bi_some]
  cases hq2:(bif (s.By:Str)==[] then(mGet A.ps s.Join).isNone else !(A.d.Users.any fun x=>s.By==x)) with
  | true=>exact⟨v,al,rfl,h.up (by omega)⟩
  | false=>
   simp only[cond_false]
   have body:∀ (op:Option Lfg) (rest:Option (BagT×Lfc)),
     ((∃ al1 m A1,rest=some (al1,m)∧RH v al1 A1 c∧AInv A1∧A1.hi=A.hi∧A1.st=A.st∧m.Node=s.Node∧joinC A s op={ setA A1 s.At m true with hi:=mSet A.hi s.Node [⟨s.Public,s.At,345686400⟩] }))→
     ∃ v' al',(bif ((mGet v.ever s.Node).getD false) then(some ((6:Int),v,al)) else(bi (Ljs v s.Public al) fun y49=>bif y49 then(some (13,v,al)) else(bif decide (((v.nodes.length:Int):Int)≥500) then(some (2,v,al)) else(bi rest fun q55=>some ((0:Int),(⟨v.d,v.keys,mSet v.nodes s.Node (q55.1.1.length+1),mSet v.ever s.Node true,mSet v.History s.Node ((q55.1.1++[false]).length+1,[(⟨s.Public,s.At,345686400⟩:Lfk)].length)⟩:Lfh),((q55.1.1++[false])++[true],q55.1.2.1,((q55.1.1++[false]).length,[(⟨s.Public,s.At,345686400⟩:Lfk)]) :: q55.1.2.2.1,(q55.1.1.length,q55.2) :: q55.1.2.2.2.1,q55.1.2.2.2.2.1,q55.1.2.2.2.2.2))))))=some ((joinB A s op).1,v',al')∧RH v' al' (joinB A s op).2 (c+1):=by
    rintro op rest ⟨al1,m,A1,rfl,h1,h2,h3,h4,h5,h6⟩
    unfold joinB
    rw[h.ev s.Node]
    cases hst:(mGet A.st s.Node).isSome with
    | true=>exact⟨v,al,rfl,h.up (by omega)⟩
    | false=>
     simp only[cond_false]
     rw[Krx h,bi_some]
     cases heldA A.th s.Public with
     | true=>exact⟨v,al,rfl,h.up (by omega)⟩
     | false=>
      simp only[cond_false]
      have hlen:v.nodes.length=A.th.length:=by rw[←h.ns,Ksv]
      rw[hlen]
      cases decide ((A.th.length:Int)≥500) with
      | true=>exact⟨v,al,rfl,h.up (by omega)⟩
      | false=>
       simp only[cond_false,bi_some]
       refine⟨_,_,rfl,?_⟩
       have:=h1.joined h2 s.Node m ⟨s.Public,s.At,345686400⟩ s.At h5 (by rw[h4];exact hst)
       rw[h3] at this
       rw[h6]
       exact this
   rcases hat with⟨e1,e2,e3⟩ | ⟨a,x,e1,e2,e3,e4,e5,e6⟩
   ·rw[e1,e2]
    simp only[beq_self_eq_true,Bool.not_true,cond_false,bi_some]
    have hby:s.By≠[]:=fun e=>by
     rw[e,e1] at hq2
     simp at hq2
    refine body none (some (al,⟨s.Node,s.By,s.Name,s.Public,[],s.At,(if 345686400<(wi (s.At+v.d.Life)) then 345686400 else wi (s.At+v.d.Life)),!v.d.Approve⟩)) ⟨al,⟨s.Node,s.By,s.Name,s.Public,[],s.At,lastA A.d s.At s.By,!A.d.Approve⟩,A,?_,h,hI,rfl,rfl,rfl,rfl⟩
    rw[h.d,Krz A.d s.At hby]
   have hjn:s.Join≠[]:=(hI.ps _ _ e1).1
   have hb0:s.By=[]:=by
    have hj:((s.Join:Str)==[])=false:=by simpa using hjn
    rw[hj] at hbj
    simpa using hbj
   have hxb:x.Join.By≠[]:=(hI.ps _ _ e1).2.1
   have hxt:x.Join.Tags.length≤10:=(hI.ps _ _ e1).2.2
   rw[e1,e3,e6]
   simp only[Bool.not_false,cond_true]
   rw[Kuc e5,e4]
   simp only[gd,cond_true,bi_some,Ksa e4]
   have hpf:(bif passF (k2p x) s.At != 0 then(passF (k2p x) s.At,A) else joinB A s (some (k2p x)))=(bif (x.revoked||decide (s.At≥x.Join.Until)) then(11,A) else bif decide (x.used≥x.Join.Left) then(12,A) else joinB A s (some (k2p x))):=by
    unfold passF k2p
    cases (x.revoked||decide (s.At≥x.Join.Until)) with
    | true=>rfl
    | false=>cases decide (x.used≥x.Join.Left)<;>rfl
   rw[hpf]
   have hr:(bif x.revoked then some true else some (decide (s.At≥x.Join.Until)))=some (x.revoked||decide (s.At≥x.Join.Until)):=by cases x.revoked<;>rfl
   rw[hr,bi_some]
   cases (x.revoked||decide (s.At≥x.Join.Until)) with
   | true=>exact⟨v,al,rfl,h.up (by omega)⟩
   | false=>
    simp only[cond_false]
    cases decide (x.used≥x.Join.Left) with
    | true=>exact⟨v,al,rfl,h.up (by omega)⟩
    | false=>
     simp only[cond_false]
     have hp1:=h.keyc e2 ⟨x.Join,x.revoked,wi (x.used+1)⟩
     have hI1:AInv { A with ps:=mSet A.ps s.Join (k2p ⟨x.Join,x.revoked,wi (x.used+1)⟩) }:=Ktr hI ⟨hjn,hxb,hxt⟩
     refine body (some (k2p x)) _ ⟨_,⟨s.Node,bif (x.Join.Tags.length:Int)==0 then x.Join.By else s.By,s.Name,s.Public,x.Join.Tags,s.At,lastA A.d s.At (bif (x.Join.Tags.length:Int)==0 then x.Join.By else s.By),!A.d.Approve||x.Join.Ready⟩,_,?_,hp1,hI1,rfl,rfl,rfl,rfl⟩
     have ha:(bif !v.d.Approve then some true else some x.Join.Ready)=some (!A.d.Approve||x.Join.Ready):=by rw[h.d];cases A.d.Approve<;>rfl
     rw[ha,bi_some,Kto hxt,h.d,hb0,Krz A.d s.At hxb]
     cases ht:x.Join.Tags with
     | nil=>rfl
     | cons y l=>
      have e1:(((y :: l).length:Int)==0)=false:=by first | (simp;done) | (simp;omega)
      have e2:decide (((y :: l).length:Int)>0)=true:=by first | (simp;done) | (simp;omega)
      rw[e1,e2]
      rfl
theorem Ksc{z:List Lfk}(hz:z≠[])(t:Int):∃ x,z[z.length - 1]?=some x∧closeH z t=z.set (z.length - 1) ⟨x.Public,x.From,t⟩:=by
 have hl:0<z.length:=List.length_pos_iff.2 hz
 have hx:z[z.length - 1]?=some (z[z.length - 1]'(by omega)):=gGe _
 exact⟨_,hx,by unfold closeH;rw[hx]⟩
theorem RH.hat(h:RH v al A c)(hc:c<100000){k:Str}(hk:(mGet A.hi k).isSome=true):∃ (q:Nat) (n:Nat) (z:List Lfk) (x:Lfk),mGet v.History k=some (q,n)∧0<q∧hGet al.2.2.1 q=some z∧z.length=n∧z≠[]∧z.length≤c∧(mGet A.hi k).getD []=z∧
  (decide ((0:Int)≤wi ((n:Int) - 1))&&Nat.blt (wi ((n:Int) - 1)).toNat n)=true∧getZ z (wi ((n:Int) - 1))=some x∧∀ t,z.set (wi ((n:Int) - 1)).toNat ⟨x.Public,x.From,t⟩=closeH z t:=by
 have e:mGet A.hi k=(mGet v.History k).map fun w=>(hGet al.2.2.1 w.1).getD []:=by
  rw[←h.hi,Kst,Kru,Option.map_map];rfl
 cases hm:mGet v.History k with
 | none=>rw[e,hm] at hk;cases hk
 | some w=>
  obtain⟨q,n⟩:=w
  obtain⟨z,z1,z2,z3,z4⟩:=h.hl k _ hm
  have hl:0<z.length:=List.length_pos_iff.2 z3
  obtain⟨x,hx,_⟩:=Ksc z3 0
  have z2':z.length=n:=z2
  have hw:wi ((n:Int) - 1)=((z.length - 1:Nat):Int):=by rw[Lbf (by omega) (by omega)];omega
  refine⟨q,n,z,x,rfl,Kla z1,z1,z2,z3,z4,by rw[e,hm];simp only[Option.map_some,Option.getD_some];rw[z1];rfl,?_,by rw[hw];exact Lad hx,fun t=>?_⟩
  ·rw[hw]
   simp only[Int.toNat_natCast,Bool.and_eq_true,decide_eq_true_eq]
   exact⟨by omega,nblt.2 (by omega)⟩
  ·obtain⟨x',hx',e'⟩:=Ksc z3 t
   rw[hx] at hx'
   cases hx'
   rw[hw,Int.toNat_natCast,e']
theorem RH.rowc(h:RH v al A c){k:Str}{q n:Nat}{z z':List Lfk}(hm:mGet v.History k=some (q,n))(hz:hGet al.2.2.1 q=some z)(hl:z'.length=z.length):RH v (al.1,al.2.1,hSet al.2.2.1 q z',al.2.2.2) { A with hi:=mSet A.hi k z' } c:=by
 have hmk:mGet (hdl v.History) k=some q:=by rw[Kru,hm];rfl
 obtain⟨g1,g2⟩:=h.hh.set [] hmk z'
 refine⟨⟨h.bag.p,Ksk h.bag.r,h.bag.m,h.bag.k⟩,h.d,h.kh,h.ks,h.nh,h.ns,h.ev,h.hs,g1,fun k' w hw=>?_,?_⟩
 ·obtain⟨y,y1,y2,y3,y4⟩:=h.hl k' w hw
  rw[Ksj _ _ _ _ _ hz]
  by_cases e:w.1=q
  ·rw[e,hz] at y1
   cases y1
   exact⟨z',by rw[if_pos e],by omega,fun e0=>y3 (by rw[e0] at hl;exact List.eq_nil_of_length_eq_zero hl.symm),by omega⟩
  exact⟨y,by rw[if_neg e];exact y1,y2,y3,y4⟩
 show absH [] _ _=mSet A.hi k z'
 rw[g2,h.hi]
theorem RH.rowa(h:RH v al A c)(hc:c<100000){k:Str}{q n:Nat}{z z':List Lfk}(hm:mGet v.History k=some (q,n))(hq:0<q)(hz:hGet al.2.2.1 q=some z)(hl:z'.length=z.length)(hn:z.length=n)(x:Lfk) :
  ∃ w t l,appV al.1 (hSet al.2.2.1 q z') (q,n) [x]=some (w,t,l)∧RH ⟨v.d,v.keys,v.nodes,v.ever,mSet v.History k w⟩ (t,al.2.1,l,al.2.2.2) { A with hi:=mSet A.hi k (z'++[x]) } (c+1):=by
 have hmk:mGet (hdl v.History) k=some q:=by rw[Kru,hm];rfl
 obtain⟨y0,y1,y2,y3,y4⟩:=h.hl k _ hm
 have y1':hGet al.2.2.1 q=some y0:=y1
 rw[hz] at y1'
 cases y1'
 obtain⟨t0,rfl⟩:∃ t0,q=t0+1:=⟨q - 1,by omega⟩
 have happ:appV al.1 (hSet al.2.2.1 (t0+1) z') (t0+1,n) [x]=some ((al.1.length+1,(z'++[x]).length),al.1.set t0 false++[true],(al.1.length,z'++[x]) :: hDel (hSet al.2.2.1 (t0+1) z') (t0+1)):=by
  unfold appV
  simp only[List.isEmpty_cons,cond_false]
  rw[Ksa hz,bi_some]
  have e:Nat.beq z'.length n=true:=by rw[Nat.beq_eq];omega
  rw[e]
  simp only[gd,cond_true]
  rw[Lbm (by simp only[List.length_cons,List.length_nil];omega),bi_some]
 obtain⟨g1,g2⟩:=h.hh.repl [] h.bag.r hmk (z'++[x]) z'
 have hmap:hdl (mSet v.History k (al.1.length+1,(z'++[x]).length))=mSet (hdl v.History) k (al.1.length+1):=Ksq (fun w:Vl=>w.1) h.hs k _
 have hlen:(al.1.set t0 false++[true]).length=al.1.length+1:=by simp
 refine⟨_,_,_,happ,⟨fun e he=>?_,fun e he=>?_,fun e he=>?_,fun e he=>?_⟩,h.d,h.kh,h.ks,h.nh,h.ns,h.ev,h.hs.set _ _,by rw[hmap];exact g1,fun k' w hw=>?_,?_⟩
 ·show e.1<_;rw[hlen];have:=h.bag.p e he;omega
 ·show e.1<_;rw[hlen]
  rcases List.mem_cons.1 he with rfl | he
  ·simp
  ·have:=Ksl (Ksk h.bag.r) e he;omega
 ·show e.1<_;rw[hlen];have:=h.bag.m e he;omega
 ·show e.1<_;rw[hlen];have:=h.bag.k e he;omega
 ·have hw':mGet (mSet v.History k (al.1.length+1,(z'++[x]).length)) k'=some w:=hw
  rw[Laq] at hw'
  cases hq':k'==k with
  | true=>
   rw[hq'] at hw'
   cases hw'
   exact⟨z'++[x],Ksh _ _ _,rfl,by simp,by simp;omega⟩
  | false=>
   rw[hq'] at hw'
   simp only[Bool.false_eq_true,if_false] at hw'
   obtain⟨y,u1,u2,u3,u4⟩:=h.hl k' w hw'
   have hne:w.1≠t0+1:=fun e=>by
    have:=h.hh.inj k' k (t0+1) (by rw[Kru,hw'];exact congrArg some e) hmk
    subst this;simp at hq'
   refine⟨y,?_,u2,u3,by omega⟩
   show hGet ((al.1.length,z'++[x]) :: hDel (hSet al.2.2.1 (t0+1) z') (t0+1)) w.1=some y
   rw[Ksi _ _ _ _ (Ksn h.bag.r u1),Kso hne,Ksj _ _ _ _ _ hz,if_neg hne]
   exact u1
 ·show absH [] _ (hdl (mSet v.History k _))=mSet A.hi k (z'++[x])
  rw[hmap]
  exact g2.trans (by rw[h.hi])
end
end Go.Gk
namespace Go.Gk
theorem Ksd{X:Type}(l:List (Nat×X))(a:Nat)(x y:X):hSet (hSet l a x) a y=hSet l a y:=by
 cases a with
 | zero=>rfl
 | succ t=>
  unfold hSet
  simp only
  cases hi:l.findIdx? (fun e=>t==e.1) with
  | none=>simp only;rw[hi]
  | some i=>
   obtain⟨h1,h2,h3⟩:=lFi.1 hi
   have:(l.set i (t,x)).findIdx? (fun e=>t==e.1)=some i:=by
    rw[lFi]
    refine⟨by simpa using h1,by simp,fun j hj=>?_⟩
    rw[List.getElem_set_ne (by omega)]
    exact h3 j hj
   simp only
   rw[this]
   simp
section
variable{v:Lfh}{al:BagT}{A:Ab}{c:Nat}{s:Ley}
theorem RH.setm(h:RH v al A c){a:Nat}{k:Str}(hm:mGet v.nodes k=some a)(x:Lfc)(hx:x.Node=k)(hs:(mGet A.st k).isSome=true)(z:Int)(key:Bool):RH v (al.1,al.2.1,al.2.2.1,hSet al.2.2.2.1 a x,al.2.2.2.2) (setA A z x key) c:=by
 have h1:=(h.mach hm x).stc (st:=mSet A.st x.Node ((mGet A.st x.Node).getD []++[⟨z,x,false,key⟩])) (fun k'=>by
  rw[Laq]
  cases hq:k'==x.Node with
  | true=>
   have:=beq_iff_eq.1 hq
   subst this
   show true=(mGet A.st _).isSome
   rw[hx,hs]
  | false=>rfl)
 unfold setA
 subst hx
 exact h1
theorem Kse(h:RH v al A c)(hI:AInv A)(hv:StepV s)(hc:c<100000)(hk:s.Kind≠4){a:Nat}{m:Lfc}(e1:mGet A.th s.Node=some m)(e2:mGet v.nodes s.Node=some a)(e4:hGet al.2.2.2.1 a=some m)(e5:0<a) :
  ∃ v' al',Ljy v s a al=some ((turnA A s m).1,v',al')∧RH v' al' (turnA A s m).2 (c+1):=by
 obtain⟨n1,n2,n3,n4⟩:=hI.th _ _ e1
 obtain⟨q,n,z,x,r1,r2,r3,r4,r5,r6,r7,r8,r9,r10⟩:=h.hat hc n3
 have g2:∀ y z:Lfc,hGet (hSet (hSet al.2.2.2.1 a y) a z) a=some z:=fun y z=>by rw[Ksd,Ksa e4]
 have hset:=fun (x:Lfc) (hx:x.Node=s.Node) (key:Bool)=>h.setm e2 x hx n2 s.At key
 have k4:((s.Kind:Int)==4)=false:=by simpa using hk
 unfold Ljy turnA
 rw[k4]
 simp only[cond_false]
 cases (s.Kind:Int)==5 with
 | true=>
  simp only[cond_true]
  rw[Krx h,bi_some]
  cases heldA A.th s.Public with
  | true=>exact⟨v,al,rfl,h.up (by omega)⟩
  | false=>
   simp only[cond_false]
   rw[Kuc e5,e4]
   simp only[gd,cond_true,bi_some,Ksa e4,g2,Ksd]
   have hfin:(bif !((m.User:Str)==[]) then some ((al.1,al.2.1,al.2.2.1,hSet al.2.2.2.1 a (⟨m.Node,m.User,m.Name,s.Public,m.Tags,m.Joined,(if 345686400<(wi (s.At+v.d.Life)) then 345686400 else wi (s.At+v.d.Life)),m.Approved⟩:Lfc),al.2.2.2.2.1,al.2.2.2.2.2):BagT) else some (al.1,al.2.1,al.2.2.1,hSet al.2.2.2.1 a (⟨m.Node,m.User,m.Name,s.Public,m.Tags,m.Joined,345686400,m.Approved⟩:Lfc),al.2.2.2.2.1,al.2.2.2.2.2)) =
     some (al.1,al.2.1,al.2.2.1,hSet al.2.2.2.1 a ⟨m.Node,m.User,m.Name,s.Public,m.Tags,m.Joined,lastA A.d s.At m.User,m.Approved⟩,al.2.2.2.2):=by
    rw[h.d]
    cases hu:((m.User:Str)==[]) with
    | true=>unfold lastA;rw[hu];rfl
    | false=>rw[Krz A.d s.At (by simpa using hu)];rfl
   rw[hfin,bi_some,r1]
   simp only[Option.getD_some]
   rw[Kuc r2,r8,r3]
   simp only[cond_true,bi_some]
   rw[r9,bi_some,r10]
   have h1:=hset ⟨m.Node,m.User,m.Name,s.Public,m.Tags,m.Joined,lastA A.d s.At m.User,m.Approved⟩ n1 true
   have hcl:(closeH z s.At).length=z.length:=by
    obtain⟨x',_,e'⟩:=Ksc r5 s.At
    rw[e',List.length_set]
   obtain⟨w,t,l,w1,w2⟩:=h1.rowa hc r1 r2 r3 hcl r4 ⟨s.Public,s.At,345686400⟩
   rw[w1,bi_some]
   exact⟨_,_,rfl,by rw[r7];exact w2⟩
 | false=>
  simp only[cond_false]
  cases (s.Kind:Int)==6 with
  | true=>
   simp only[cond_true]
   rw[Kuc e5,e4]
   simp only[gd,cond_true,bi_some]
   cases (m.Name:Str)==s.Name with
   | true=>exact⟨v,al,rfl,h.up (by omega)⟩
   | false=>exact⟨_,_,rfl,(hset ⟨m.Node,m.User,s.Name,m.Public,m.Tags,m.Joined,m.Expires,m.Approved⟩ n1 false).up (by omega)⟩
  | false=>
   simp only[cond_false]
   cases (s.Kind:Int)==7 with
   | true=>
    simp only[cond_true]
    cases (s.Tags.length:Int)==0 with
    | true=>exact⟨v,al,rfl,h.up (by omega)⟩
    | false=>
     simp only[cond_false]
     rw[Krv,h.d,bi_some]
     cases tagF A.d s.By s.Tags != 0 with
     | true=>exact⟨v,al,rfl,h.up (by omega)⟩
     | false=>
      simp only[cond_false]
      rw[Kto (Ktn hv.ok),bi_some,Kuc e5,e4]
      simp only[gd,cond_true,bi_some,Ksa e4,g2,Ksd]
      exact⟨⟨A.d,v.keys,v.nodes,v.ever,v.History⟩,_,rfl,by
       have:=(hset ⟨m.Node,[],m.Name,m.Public,s.Tags,m.Joined,345686400,m.Approved⟩ n1 false).up (c':=c+1) (by omega)
       rw[←h.d];exact this⟩
   | false=>
    simp only[cond_false]
    cases (s.Kind:Int)==8 with
    | true=>
     simp only[cond_true]
     rw[Kuc e5,e4]
     simp only[gd,cond_true,bi_some]
     cases decide (m.Expires≤s.At) with
     | true=>exact⟨v,al,rfl,h.up (by omega)⟩
     | false=>exact⟨_,_,rfl,(hset ⟨m.Node,m.User,m.Name,m.Public,m.Tags,m.Joined,s.At,m.Approved⟩ n1 false).up (by omega)⟩
    | false=>
     simp only[cond_false]
     rw[r1]
     simp only[Option.getD_some]
     rw[Kuc r2,r8,r3]
     simp only[gd,cond_true,bi_some]
     rw[r9,bi_some,r10]
     have hcl:(closeH z s.At).length=z.length:=by
      obtain⟨x',_,e'⟩:=Ksc r5 s.At
      rw[e',List.length_set]
     have h1:=h.rowc r1 r3 hcl
     obtain⟨d1,d2⟩:=h.nh.del mac0 s.Node
     refine⟨⟨v.d,v.keys,mDel v.nodes s.Node,v.ever,v.History⟩,_,rfl,?_⟩
     have h2:RH ⟨v.d,v.keys,mDel v.nodes s.Node,v.ever,v.History⟩ (al.1,al.2.1,hSet al.2.2.1 q (closeH z s.At),al.2.2.2) { A with th:=mDel A.th s.Node,st:=mSet A.st s.Node ((mGet A.st s.Node).getD []++[⟨s.At,⟨[],[],[],[],[],0,0,false⟩,true,false⟩]),hi:=mSet A.hi s.Node (closeH z s.At) } c:=by
      refine⟨h1.bag,h.d,h1.kh,h1.ks,d1,by rw[←h.ns];exact d2,fun k=>?_,h1.hs,h1.hh,h1.hl,h1.hi⟩
      show(mGet v.ever k).getD false=(mGet (mSet A.st s.Node _) k).isSome
      rw[Laq,h.ev k]
      cases hq:k==s.Node with
      | true=>
       have:=beq_iff_eq.1 hq
       subst this
       rw[n2];rfl
      | false=>rfl
     rw[r7]
     exact h2.up (by omega)
theorem Ksf(h:RH v al A c)(hI:AInv A)(hv:StepV s)(hc:c<100000):∃ v' al',Ljz v s al=some ((stepA A s).1,v',al')∧RH v' al' (stepA A s).2 (c+1):=by
 unfold Ljz
 have hq:(bif (s.Kind:Int)==1 then(some ((s.Kind:Int)==1)) else(some ((s.Kind:Int)==2)))=some ((s.Kind:Int)==1||(s.Kind:Int)==2):=by
  cases (s.Kind:Int)==1<;>rfl
 rw[hq,bi_some]
 cases hk:((s.Kind:Int)==1||(s.Kind:Int)==2) with
 | true=>
  obtain⟨v',al',w1,w2⟩:=Kry h hv (by simpa using hk)
  exact⟨v',al',by simp only[cond_true];rw[w1];rfl,w2.up (by omega)⟩
 | false=>
  rw[Bool.or_eq_false_iff] at hk
  unfold stepA
  rw[hk.1,hk.2]
  simp only[cond_false]
  cases (s.Kind:Int)==3 with
  | true=>
   obtain⟨v',al',w1,w2⟩:=Ksb (s:=s) h hI
   exact⟨v',al',by simp only[cond_true];rw[w1];rfl,w2⟩
  | false=>
   simp only[cond_false]
   rw[Las,h.d,bi_some]
   cases (A.d.Users.any fun x=>s.By==x) with
   | false=>exact⟨v,al,rfl,h.up (by omega)⟩
   | true=>
    simp only[Bool.not_true,cond_false]
    rcases h.nat s.Node with⟨e1,e2,e3⟩ | ⟨a,m,e1,e2,e3,e4,e5,e6⟩
    ·rw[e1,e2]
     exact⟨v,al,rfl,h.up (by omega)⟩
    rw[e1,e3,e6]
    simp only[cond_false]
    rw[Kuc e5,e4]
    simp only[gd,cond_true,bi_some]
    obtain⟨n1,n2,n3,n4⟩:=hI.th _ _ e1
    cases h4:(s.Kind:Int)==4 with
    | true=>
     have hne:((s.Kind:Int) != 4)=false:=by rw[bne,h4];rfl
     rw[hne]
     simp only[cond_true,Bool.false_and,cond_false]
     unfold turnA
     rw[h4]
     simp only[cond_true]
     cases m.Approved with
     | true=>exact⟨v,al,rfl,h.up (by omega)⟩
     | false=>exact⟨v,_,rfl,(h.setm e2 ⟨m.Node,m.User,m.Name,m.Public,m.Tags,m.Joined,m.Expires,true⟩ n1 n2 s.At false).up (by omega)⟩
    | false=>
     have hne:((s.Kind:Int) != 4)=true:=by rw[bne,h4];rfl
     rw[hne,Krw,bi_some]
     simp only[cond_false,Bool.true_and]
     cases mng A.d s.By m with
     | false=>exact⟨v,al,rfl,h.up (by omega)⟩
     | true=>
      simp only[Bool.not_true,cond_false]
      obtain⟨v',al',w1,w2⟩:=Kse h hI hv hc (by simpa using h4) e1 e2 e4 e5
      exact⟨v',al',by rw[w1];rfl,w2⟩
theorem Ksg(hI:AInv A)(hv:StepV s):AInv (stepA A s).2:=by
 unfold stepA
 cases h3:(s.Kind:Int)==3 with
 | true=>
  simp only[cond_true]
  unfold joinA
  cases hbj:((s.By:Str)==[]:Bool)==((s.Join:Str)==[]) with
  | true=>exact hI
  | false=>
   simp only[cond_false]
   cases (bif (s.By:Str)==[] then(mGet A.ps s.Join).isNone else !(A.d.Users.any fun x=>s.By==x)) with
   | true=>exact hI
   | false=>
    simp only[cond_false]
    have fin:∀ {B:Ab} {m:Lfc} {x:List Lfk},AInv B→B.hi=A.hi→m.Node=s.Node→m.Tags.length≤10→AInv { setA B s.At m true with hi:=mSet A.hi s.Node x }:=fun {B m x} hB hhi hn hl=>by
     refine⟨hB.ps,fun k y hy=>?_,hB.sps,hB.sth.set _ _,hB.sst.set _ _,hI.shi.set _ _,fun k=>?_⟩
     ·have hy':mGet (mSet B.th m.Node m) k=some y:=hy
      show _∧(mGet (mSet B.st m.Node _) k).isSome=true∧(mGet (mSet A.hi s.Node x) k).isSome=true∧_
      rw[Laq] at hy' ⊢
      rw[Laq,←hn]
      cases hk:k==m.Node with
      | true=>
       rw[hk] at hy'
       cases hy'
       exact⟨(beq_iff_eq.1 hk).symm,rfl,rfl,hl⟩
      | false=>
       rw[hk] at hy'
       obtain⟨u1,u2,u3,u4⟩:=hB.th k y hy'
       rw[hhi] at u3
       exact⟨u1,u2,u3,u4⟩
     show(mGet (mSet A.hi s.Node x) k).isSome=(mGet (mSet B.st m.Node _) k).isSome
     rw[Laq,Laq,hn]
     cases k==s.Node with
     | true=>rfl
     | false=>
      have:=hB.hst k
      rw[hhi] at this
      exact this
    cases hp:mGet A.ps s.Join with
    | none=>
     simp only
     unfold joinB
     cases (mGet A.st s.Node).isSome with
     | true=>exact hI
     | false=>
      cases heldA A.th s.Public with
      | true=>exact hI
      | false=>
       cases decide ((A.th.length:Int)≥500) with
       | true=>exact hI
       | false=>exact fin hI rfl rfl (by simp[joinM])
    | some p=>
     simp only
     obtain⟨u1,u2,u3⟩:=hI.ps _ _ hp
     cases passF p s.At != 0 with
     | true=>exact hI
     | false=>
      unfold joinB
      cases (mGet A.st s.Node).isSome with
      | true=>exact hI
      | false=>
       cases heldA A.th s.Public with
       | true=>exact hI
       | false=>
        cases decide ((A.th.length:Int)≥500) with
        | true=>exact hI
        | false=>exact fin (B:={ A with ps:=mSet A.ps s.Join ⟨p.Join,p.revoked,wi (p.used+1)⟩ }) (Ktr hI ⟨u1,u2,u3⟩) rfl rfl u3
 | false=>
  simp only[cond_false]
  cases (A.d.Users.any fun x=>s.By==x) with
  | false=>exact hI
  | true=>
   simp only[Bool.not_true,cond_false]
   cases h1:(s.Kind:Int)==1 with
   | true=>
    simp only[cond_true]
    unfold keyA
    cases hp:mGet A.ps s.Join with
    | some p=>exact hI
    | none=>
     cases badN s with
     | true=>exact hI
     | false=>
      cases tagF A.d s.By s.Tags != 0 with
      | true=>exact hI
      | false=>
       obtain⟨u1,u2⟩:=hv.jn (by simpa using h1)
       exact Ktr hI ⟨u1,u2,Ktn hv.ok⟩
   | false=>
    simp only[cond_false]
    cases (s.Kind:Int)==2 with
    | true=>
     simp only[cond_true]
     unfold revA
     cases hp:mGet A.ps s.Join with
     | none=>exact hI
     | some p=>
      obtain⟨u1,u2,u3⟩:=hI.ps _ _ hp
      simp only
      cases ((p.Join.By:Str)==s.By) with
      | false=>exact hI
      | true=>
       simp only[Bool.not_true,cond_false]
       cases p.revoked with
       | true=>exact hI
       | false=>exact Ktr (p:=⟨p.Join,true,p.used⟩) hI ⟨u1,u2,u3⟩
    | false=>
     simp only[cond_false]
     cases hm:mGet A.th s.Node with
     | none=>exact hI
     | some m=>
      simp only
      obtain⟨n1,n2,n3,n4⟩:=hI.th _ _ hm
      cases ((s.Kind:Int) != 4&&!mng A.d s.By m) with
      | true=>exact hI
      | false=>
       simp only[cond_false]
       have fin:∀ (x:Lfc) (key:Bool),x.Node=s.Node→x.Tags.length≤10→AInv (setA A s.At x key):=fun x key hx hl=>Ktp hI hl (by rw[hx];exact n3)
       unfold turnA
       cases (s.Kind:Int)==4 with
       | true=>
        cases m.Approved with
        | true=>exact hI
        | false=>exact fin _ _ n1 n4
       | false=>
        cases (s.Kind:Int)==5 with
        | true=>
         cases heldA A.th s.Public with
         | true=>exact hI
         | false=>
          refine Ktq (A:=setA A s.At ⟨m.Node,m.User,m.Name,s.Public,m.Tags,m.Joined,lastA A.d s.At m.User,m.Approved⟩ true) (fin _ _ n1 n4) ?_
          show(mGet (mSet A.st m.Node _) s.Node).isSome=true
          rw[Laq,n1]
          simp
        | false=>
         cases (s.Kind:Int)==6 with
         | true=>
          cases (m.Name:Str)==s.Name with
          | true=>exact hI
          | false=>exact fin _ _ n1 n4
         | false=>
          cases (s.Kind:Int)==7 with
          | true=>
           cases (s.Tags.length:Int)==0 with
           | true=>exact hI
           | false=>
            cases tagF A.d s.By s.Tags != 0 with
            | true=>exact hI
            | false=>exact fin _ _ n1 (Ktn hv.ok)
          | false=>
           cases (s.Kind:Int)==8 with
           | true=>
            cases decide (m.Expires≤s.At) with
            | true=>exact hI
            | false=>exact fin _ _ n1 n4
           | false=>
            refine⟨hI.ps,fun k y hy=>?_,hI.sps,hI.sth.del _,hI.sst.set _ _,hI.shi.set _ _,fun k=>?_⟩
            ·have hy':mGet (mDel A.th s.Node) k=some y:=hy
             show _∧(mGet (mSet A.st s.Node _) k).isSome=true∧(mGet (mSet A.hi s.Node _) k).isSome=true∧_
             rw[Ksr hI.sth] at hy'
             rw[Laq,Laq]
             cases hk:k==s.Node with
             | true=>rw[hk] at hy';cases hy'
             | false=>rw[hk] at hy';exact hI.th k y hy'
            show(mGet (mSet A.hi s.Node _) k).isSome=(mGet (mSet A.st s.Node _) k).isSome
            rw[Laq,Laq]
            cases k==s.Node with
            | true=>rfl
            | false=>exact hI.hst k
end
end Go.Gk
namespace Go.Gk
def A0(d:Lex):Ab:=⟨d,[],[],[],[]⟩
def runA(A:Ab)(l:List Ley):Ab:=l.foldl (fun A s=>(stepA A s).2) A
def rfA:Ab→Nat→List Ley→List Lfi
 | _,_,[]=>[]
 | A,i,s :: l=>(bif (stepA A s).1 != 0 then[⟨(i:Int),(stepA A s).1⟩] else[])++rfA (stepA A s).2 (i+1) l
theorem Ktd(A:Ab)(l:List Ley)(s:Ley):runA A (l++[s])=(stepA (runA A l) s).2:=by
 unfold runA;rw[List.foldl_append];rfl
theorem Kte(s:Ley):∀ (l:List Ley) (A:Ab) (i:Nat),rfA A i (l++[s])=rfA A i l++(bif (stepA (runA A l) s).1 != 0 then[⟨((i+l.length:Nat):Int),(stepA (runA A l) s).1⟩] else[])
 | [],A,i=>by simp only[List.nil_append,rfA,List.append_nil,List.length_nil,Nat.add_zero];rfl
 | x :: l,A,i=>by
  simp only[List.cons_append,rfA,Kte s l,List.append_assoc,List.length_cons]
  have e:i+1+l.length=i+(l.length+1):=by omega
  rw[e];rfl
theorem Ktf:∀ (l:List Ley) (A:Ab) (i:Nat),(rfA A i l).length≤l.length
 | [],A,i=>by simp[rfA]
 | x :: l,A,i=>by
  have:=Ktf l (stepA A x).2 (i+1)
  simp only[rfA,List.length_append,List.length_cons]
  cases ((stepA A x).1 != 0)<;>simp<;>omega
theorem A0_inv(d:Lex):AInv (A0 d):=⟨fun k p h=>(by cases h),fun k m h=>(by cases h),SM.nil,SM.nil,SM.nil,SM.nil,fun k=>rfl⟩
abbrev AllV(l:List Ley):Prop:=∀ s∈l,StepV s
theorem Ktg{A:Ab}(hI:AInv A):∀ {l:List Ley},AllV l→AInv (runA A l)
 | [],_=>hI
 | x :: l,h=>Ktg (Ksg hI (h x mCs)) fun s hs=>h s (mCo _ hs)
theorem Kth(d:Lex){al:BagT}(hb:BagOk al):∃ n,Lht d=some n∧RN n al (A0 d) 0:=by
 have key:Ok (rangeF (σ:=List (Str×Bool)) (fun i1 x3 s2=>some (mSet s2 x3 true)) 0 d.Users ([]:List (Str×Bool))) fun m=>∀ u,(mGet m u).getD false=d.Users.any fun x=>u==x:=by
  refine Ldn (Ldq (fun i m=>∀ u,(mGet m u).getD false=(d.Users.take i).any fun x=>u==x) (fun u=>by simp[mGet]) fun i x m hx hI=>Ldk fun u=>?_) fun m hm=>by simpa using hm
  rw[Laq,Ldh hx,List.any_append]
  simp only[List.any_cons,List.any_nil,Bool.or_false]
  cases hu:u==x with
  | true=>simp
  | false=>simpa using hI u
 obtain⟨m,h1,h2⟩:=key
 refine⟨⟨d,m,[],[],[]⟩,by unfold Lht;rw[h1];rfl,⟨hb,rfl,h2,HOk.nil,rfl,rfl,⟨SM.nil,(fun k s h=>by cases h),(fun k k' s s' h=>by cases h)⟩,rfl⟩⟩
theorem Lqy(d:Lex){al:BagT}(hb:BagOk al):RH ⟨d,[],[],[],[]⟩ al (A0 d) 0:=
 ⟨hb,rfl,HOk.nil,rfl,HOk.nil,rfl,fun k=>rfl,SM.nil,HOk.nil,(fun k w h=>by cases h),rfl⟩
theorem Kti{l:List Ley}{p:Ley→Bool}{i:Nat}{x:Ley}(hx:l[i]?=some x):(l.take (i+1)).filter p=(l.take i).filter p++(bif p x then[x] else[]):=by
 rw[Ldh hx,List.filter_append]
 congr 1
theorem Ktj{α:Type}{l:List α}{i:Nat}{x:α}(h:x∈l.take i):x∈l:=(List.take_sublist i l).subset h
theorem Ktk{d:Lex}{l:List Ley}(hl:AllV l)(hlen:l.length≤1000)(z:Int){al:BagT}(hb:BagOk al) :
  ∃ n al',Lin d l z al=some (n,al')∧RN n al' (runA (A0 d) (l.filter fun s=>decide (s.At≤z))) l.length:=by
 obtain⟨n0,h0,h1⟩:=Kth d hb
 have key:Ok (Lin d l z al) fun r=>RN r.1 r.2 (runA (A0 d) (l.filter fun s=>decide (s.At≤z))) l.length:=by
  unfold Lin
  refine Ldm h0 ?_
  refine Ldl (Ldq (fun i (st:BagT×(List (Str×Bool))×(List (Str×Nat))×(List (Str×Lfc))×(List (Str×(Tl Lfd)))×(List Str)×(List Lew)×Int×Bool)=>RN ⟨⟨st.2.2.2.2.2.1,st.2.2.2.2.2.2.1,st.2.2.2.2.2.2.2.1,st.2.2.2.2.2.2.2.2⟩,st.2.1,st.2.2.1,st.2.2.2.1,st.2.2.2.2.1⟩ st.1 (runA (A0 d) ((l.take i).filter fun s=>decide (s.At≤z))) i) h1 fun i x st hx hI=>?_) fun st hst=>Ldk ?_
  ·have hi:i<l.length:=(gEs.1 hx).1
   have hf:=Kti (p:=fun s:Ley=>decide (s.At≤z)) hx
   refine Ldo (fun hz=>?_) fun hz=>Ldk ?_
   ·obtain⟨n',al',e1,e2⟩:=Ktc (s:=x) hI (Ktg (A0_inv d) fun s hs=>hl s (Ktj (List.mem_filter.1 hs).1)) (hl x (mOg hx)) (by omega)
    refine Ldm e1 (Ldk ?_)
    rw[hf,hz,cond_true,Ktd]
    exact e2
   ·rw[hf,hz,cond_false,List.append_nil]
    exact hI.up (by omega)
  ·have:=hst
   rw[List.take_length] at this
   exact this
 obtain⟨⟨n,al'⟩,h2,h3⟩:=key
 exact⟨n,al',h2,h3⟩
def Srt(l:List Ley):Prop:=l.Pairwise fun a b=>a.At≤b.At
theorem Ktl{l:List Ley}{z:Int}{i:Nat}{x:Ley}(hs:Srt l)(hx:l[i]?=some x)(hz:x.At>z)(hf:(l.take i).filter (fun s=>decide (s.At≤z))=l.take i):l.filter (fun s=>decide (s.At≤z))=l.take i:=by
 have h1:l.take i++l.drop i=l:=List.take_append_drop i l
 have hd:(l.drop i).filter (fun s=>decide (s.At≤z))=[]:=by
  rw[List.filter_eq_nil_iff]
  intro y hy
  obtain⟨j,hj⟩:=List.getElem?_of_mem hy
  rw[List.getElem?_drop] at hj
  by_cases h0:j=0
  ·subst h0
   rw[Nat.add_zero,hx] at hj
   cases hj
   simp;omega
  have:=Lcz hs (show i<i+j by omega) hx hj
  simp;omega
 conv=>lhs;rw[←h1]
 rw[List.filter_append,hf,hd,List.append_nil]
theorem Ktm{d:Lex}{l:List Ley}(hl:AllV l)(hlen:l.length≤1000)(hs:Srt l)(z:Int){al:BagT}(hb:BagOk al) :
  ∃ v al',Lka d l z al=some (v,rfA (A0 d) 0 (l.filter fun s=>decide (s.At≤z)),al')∧RH v al' (runA (A0 d) (l.filter fun s=>decide (s.At≤z))) l.length:=by
 have key:Ok (Lka d l z al) fun r=>r.2.1=rfA (A0 d) 0 (l.filter fun s=>decide (s.At≤z))∧RH r.1 r.2.2 (runA (A0 d) (l.filter fun s=>decide (s.At≤z))) l.length:=by
  unfold Lka
  refine Ldm (show Ljo d=some _ from rfl) ?_
  refine Ldl (Lds (fun i (st:BagT×(List (Str×Nat))×(List (Str×Nat))×(List (Str×Bool))×(List (Str×Vl))×(List Str)×(List Lew)×Int×Bool×(List Lfi))=>RH ⟨⟨st.2.2.2.2.2.1,st.2.2.2.2.2.2.1,st.2.2.2.2.2.2.2.1,st.2.2.2.2.2.2.2.2.1⟩,st.2.1,st.2.2.1,st.2.2.2.1,st.2.2.2.2.1⟩ st.1 (runA (A0 d) (l.take i)) i∧st.2.2.2.2.2.2.2.2.2=rfA (A0 d) 0 (l.take i)∧(l.take i).filter (fun s=>decide (s.At≤z))=l.take i)
   (fun (st:BagT×(List (Str×Nat))×(List (Str×Nat))×(List (Str×Bool))×(List (Str×Vl))×(List Str)×(List Lew)×Int×Bool×(List Lfi))=>RH ⟨⟨st.2.2.2.2.2.1,st.2.2.2.2.2.2.1,st.2.2.2.2.2.2.2.1,st.2.2.2.2.2.2.2.2.1⟩,st.2.1,st.2.2.1,st.2.2.2.1,st.2.2.2.2.1⟩ st.1 (runA (A0 d) (l.filter fun s=>decide (s.At≤z))) l.length∧st.2.2.2.2.2.2.2.2.2=rfA (A0 d) 0 (l.filter fun s=>decide (s.At≤z)))
   ⟨Lqy d hb,rfl,rfl⟩ fun i x st hx hI=>?_) fun q hq=>?_
  ·have hi:i<l.length:=(gEs.1 hx).1
   refine Ldo (fun hz=>Ldk ?_) fun hz=>?_
   ·have hst:=Ktl hs hx (of_decide_eq_true hz) hI.2.2
    simp only
    rw[hst]
    exact⟨hI.1.up (by omega),hI.2.1⟩
   ·obtain⟨v',al',e1,e2⟩:=Ksf (s:=x) hI.1 (Ktg (A0_inv d) fun s hs=>hl s (Ktj hs)) (hl x (mOg hx)) (by omega)
    refine Ldm e1 ?_
    have hr:=Kte x (l.take i) (A0 d) 0
    have ht:(l.take i).length=i:=by rw[List.length_take];omega
    rw[←Ldh hx,ht,Nat.zero_add] at hr
    have hlr:=Ktf (l.take i) (A0 d) 0
    have hf2:(l.take (i+1)).filter (fun s=>decide (s.At≤z))=l.take (i+1):=by
     rw[Kti hx,hI.2.2,Ldh hx]
     have:decide (x.At≤z)=true:=by have:=of_decide_eq_false hz;simp;omega
     rw[this];rfl
    refine Ldo (fun hz=>?_) fun hz=>Ldk ⟨?_,?_,hf2⟩
    ·rw[hI.2.1]
     refine Ldv (by simp only[List.length_cons,List.length_nil];omega) (Ldk ⟨?_,?_,hf2⟩)
     ·rw[Ldh hx,Ktd];exact e2
     ·rw[hr,hz];rfl
    ·rw[Ldh hx,Ktd];exact e2
    ·rw[hr,hz,hI.2.1,cond_false,List.append_nil]
  ·cases q with
   | out st=>exact Ldk ⟨hq.2,hq.1⟩
   | go st=>
    simp only[List.take_length] at hq
    refine Ldk ⟨?_,?_⟩
    ·rw[hq.2.2];exact hq.2.1
    ·rw[hq.2.2];exact hq.1
 obtain⟨⟨v,o,al'⟩,h2,rfl,h3⟩:=key
 exact⟨v,al',h2,h3⟩
end Go.Gk
namespace Go.Gk
section
variable{α β:Type}{m n:Option α}{c:Bool}{Q:α→Prop}
theorem ok_t(h:c=true)(k:Ok m Q):Ok (bif c then m else n) Q:=by subst h;exact k
theorem ok_f(h:c=false)(k:Ok n Q):Ok (bif c then m else n) Q:=by subst h;exact k
end
theorem Kui{s:Ley}(h:StepOk s)(h0:Lgr s=some 0):StepV s:=by
 obtain⟨e,he,he'⟩:=Lck h
 rw[he'] at h0
 cases h0
 have hf:=he
 unfold Lho at hf
 rw[show Lhe s.At=some (decide (s.At≥0)&&decide (s.At<345686400)) from rfl,bi_some] at hf
 cases hm:(decide (s.At≥0)&&decide (s.At<345686400)) with
 | false=>rw[hm] at hf;simp at hf
 | true=>
  rw[hm] at hf
  simp only[Bool.not_true,cond_false] at hf
  obtain⟨c,hc,_⟩:=Lcl _ h.sv
  rw[hc,bi_some] at hf
  cases c with
  | false=>simp at hf
  | true=>
   simp only[Bool.not_true,cond_false] at hf
   obtain⟨d,hd,hd'⟩:=Lbq s.No 1 1000000
   rw[hd,bi_some] at hf
   cases d with
   | true=>simp at hf
   | false=>
    simp only[cond_false] at hf
    obtain⟨f,hf1,hf1'⟩:=Lbq s.Kind 1 9
    rw[hf1,bi_some] at hf
    cases f with
    | true=>simp at hf
    | false=>
     simp only[cond_false] at hf
     have kk:1≤s.Kind∧s.Kind≤9:=by
      unfold Lgk at hf1'
      simpa using hf1'
     simp only[Bool.and_eq_true,decide_eq_true_eq] at hm
     refine⟨h,⟨by omega,by omega⟩,kk,fun K=>?_⟩
     obtain⟨b0,hb0,hb0'⟩:=Lcl _ h.by_
     obtain⟨b2,hb2,hb2'⟩:=Lcl _ (Lcp _ h.jn)
     obtain⟨e5,he5,he5',hl5⟩:=Lcn _ h.tg
     have P0:=pf0 s hb0;have P2:=pf2 s hb2;have P5:=pf5 s he5 hl5
     have P6:=pf6 s;have P7:=pf7 s;have P8:=pf8 s
     rw[K] at P0 P2
     have hq:=(Lci (show Lhf s.Kind=some [0,2,5,6,7,8] by rw[K];rfl) (Lce s [0,2,5,6,7,8] [bif b0 then 0 else 5,bif b2 then 0 else 5,e5,_,_,0] (by simp only[List.map_cons,List.map_nil,P0,P2,P5,P6,P7,P8];cases b0<;>cases b2<;>rfl))).symm.trans hf
     cases b0 with
     | false=>simp[List.find?] at hq
     | true=>
      cases b2 with
      | false=>simp[List.find?] at hq
      | true=>
       refine⟨fun g=>?_,fun g=>?_⟩
       ·have:=Lch hb2' (by rw[g];rfl);cases this
       have:=Lch hb0' (by rw[g];rfl);cases this
theorem Kuj(a b:Ley):∃ c,Lfz a b=some c∧(c<0→a.At≤b.At):=by
 unfold Lfz Kqy
 rw[Lbr,Lbr]
 simp only[bi_some]
 obtain⟨c,h,h2⟩:=Lbs (cmpI a.At b.At) [Lib.compareBytes a.Server b.Server,cmpI a.No b.No]
 rw[h]
 refine⟨c,rfl,fun hc=>?_⟩
 by_cases h0:cmpI a.At b.At=0
 ·unfold cmpI at h0
  split at h0
  ·omega
  split at h0<;>omega
 have:=h2 h0
 rw[this] at hc
 unfold cmpI at hc
 split at hc
 ·omega
 split at hc<;>omega
theorem Kuk{l:List Ley}(h:AllS l)(hl:l.length≤1000)(h0:Lgv l=some 0):(∀ s∈l,Lgr s=some 0)∧Srt l:=by
 have key:Ok (Lgv l) fun e=>e=0→(∀ s∈l,Lgr s=some 0)∧∀ (j:Nat) a b,l[j]?=some a→l[j+1]?=some b→a.At≤b.At:=by
  unfold Lgv
  rw[dF (show ¬ ((l.length:Int)>2000) by omega)]
  simp only[cond_false]
  refine Ldl (Lds (fun i (_:Unit)=>(∀ s∈l.take i,Lgr s=some 0)∧∀ (j:Nat) a b,j+1<i→l[j]?=some a→l[j+1]?=some b→a.At≤b.At) (fun q=>q≠0) ⟨fun s hs=>by simp at hs,fun j a b hj=>absurd hj (by omega)⟩ fun i x st hx hI=>?_) fun r hr=>?_
  ·have hi:i<l.length:=(gEs.1 hx).1
   obtain⟨e,_,he⟩:=Lck (h x (mOg hx))
   refine Ldm he ?_
   refine Ldo (fun hz=>Ldk (by simpa using hz)) fun hz=>?_
   have hz:e=0:=by simpa using hz
   subst hz
   refine Ldl (P:=fun q=>q=false→∀ (j:Nat) a,j+1=i→l[j]?=some a→a.At≤x.At) (Ldo (fun g=>?_) fun g=>Ldk fun _ j a hj=>?_) fun q hq=>?_
   ·have g:(i:Int)>0:=of_decide_eq_true g
    refine Ldu (j:=i - 1) (x:=l[i - 1]) (by rw[Lbf (by omega) (by omega)];omega) (gGe (by omega)) ?_
    obtain⟨c,hc,hc2⟩:=Kuj l[i - 1] x
    refine Ldm hc (Ldk fun hf j a hj ha=>?_)
    have:¬ (c≥0):=of_decide_eq_false hf
    have e1:j=i - 1:=by omega
    subst e1
    rw[gGe (by omega)] at ha
    cases ha
    exact hc2 (by omega)
   ·have:=of_decide_eq_false g
    omega
   refine Ldo (fun _=>Ldk (show(7:Int)≠0 by decide)) fun hq0=>?_
   rw[show subZ l 0 (i:Int)=some (l.take i) from(Lac (i:=0) (Nat.zero_le _) (by omega)).trans rfl]
   refine Ldm rfl (Ldm (Ldg _ _) (Ldo (fun _=>Ldk (show(6:Int)≠0 by decide)) fun _=>Ldk ⟨fun s hs=>?_,fun j a b hj ha hb=>?_⟩))
   ·rw[Ldh hx,List.mem_append] at hs
    rcases hs with hs | hs
    ·exact hI.1 s hs
    rw[List.mem_singleton] at hs
    subst hs
    exact he
   by_cases hji:j+1=i
   ·subst hji
    rw[hx] at hb
    cases hb
    exact hq hq0 j a rfl ha
   exact hI.2 j a b (by omega) ha hb
  cases r with
  | out q=>exact Ldk fun g=>absurd g hr
  | go s=>
   rw[List.take_length] at hr
   exact Ldk fun _=>⟨hr.1,fun j a b ha hb=>hr.2 j a b (gEs.1 hb).1 ha hb⟩
 obtain⟨e,h1,h2⟩:=key
 rw[h0] at h1
 cases h1
 obtain⟨h2,h3⟩:=h2 rfl
 refine⟨h2,Lda ?_⟩
 have far:∀ (n i:Nat) (a b:Ley),l[i]?=some a→l[i+1+n]?=some b→a.At≤b.At:=by
  intro n
  induction n with
  | zero=>exact fun i a b ha hb=>h3 i a b ha hb
  | succ n ih=>
   intro i a b ha hb
   have hi:i+1+(n+1)<l.length:=(gEs.1 hb).1
   have hm:l[i+1+n]?=some l[i+1+n]:=gGe (by omega)
   have h4:=ih i a _ ha hm
   have h5:=h3 _ _ _ hm hb
   omega
 intro i j a b hij ha hb
 obtain⟨n,rfl⟩:∃ n,j=i+1+n:=⟨j - (i+1),by omega⟩
 exact far n i a b ha hb
theorem Kul{l:List Ley}(h:AllS l)(hl:l.length≤1000)(h0:Lgv l=some 0):AllV l∧Srt l:=let ⟨a,b⟩:=Kuk h hl h0;⟨fun s hs=>Kui (h s hs) (a s hs),b⟩
theorem Kum{d:Lex}{l:List Ley}(hd:DirOk d)(hl:AllS l)(hn:l.length≤1000){e e2:Int}(h1:Lgl d=some e)(h2:Lgv l=some e2) :
  Lhs 400 d l=some (if e≠0 then e else e2):=by
 obtain⟨e3,c1,c2,_⟩:=Ldj hl hn
 rw[h2] at c2
 cases c2
 unfold Lhs
 rw[Lax hd,h1,bi_some]
 by_cases h0:e=0
 ·subst h0;simp[c1,bi_some]
 ·have:(e != 0)=true:=by simpa using h0
  simp[this,h0]
end Go.Gk
