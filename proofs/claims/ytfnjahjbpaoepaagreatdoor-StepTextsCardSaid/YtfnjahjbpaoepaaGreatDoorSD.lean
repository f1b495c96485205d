import Derived.Test.YtfnjahjbpaoepaaGreatDoorSC
set_option linter.all false
set_option maxRecDepth 100000
namespace Go.Gk
abbrev Smal(l:List Int):Prop:=l.length≤9223372036854775807
section
variable{l:List Int}{b:Int}{s:Kxw}
theorem Ktq(h:At l 0 b s)(n:Int)(hl:Smal l)(hb:b<4611686018427387904)(hn:1≤n)(hn2:n≤1000000):Ok (Kyc s n) fun r=>(0≤r.1∧r.1<n)∧At l 0 (b+1) r.2:=by
 obtain⟨e1,e2,e3⟩:=h
 obtain⟨r,h1,h2,h3⟩:=Kte l s.v_at n hl (by omega) (by omega) hn (by omega)
 rw[←e1] at h3
 exact⟨_,h3,⟨h1,h2⟩,e1,by simp only;omega,by simp only;omega⟩
theorem Ktr(h:At l 0 b s)(n:Int)(hl:Smal l)(hb:b<4611686018427387904)(hn:1≤n)(hn2:n≤1000000):Ok (Kyi s n) fun r=>At l 0 (b+1) r.2:=
 Kvl (Kvy h n hl (by decide) hb hn (by omega)) fun r hr=>hr.up (by decide) (Int.le_refl _)
theorem Kts{P:Str→Prop}(h:At l 0 b s)(xs:List Str)(hl:Smal l)(hb:b<4611686018427387904)(hn:1≤xs.length)(hn2:xs.length≤1000)(hp:∀ x∈xs,P x):Ok (Kye s xs) fun r=>P r.1∧At l 0 (b+1) r.2:=
 Kvl (Kwa h xs hl (by decide) hb hn hn2) fun r hr=>⟨hp _ hr.1,hr.2.up (by decide) (Int.le_refl _)⟩
theorem Ktt(h:At l 0 b s)(xs:List Int)(hl:Smal l)(hb:b<4611686018427387904)(hn:1≤xs.length)(hn2:xs.length≤1000):Ok (Kyf s xs) fun r=>At l 0 (b+1) r.2:=
 Kvl (Kvz h xs hl (by decide) hb hn hn2) fun r hr=>hr.2.up (by decide) (Int.le_refl _)
theorem Ktu(h:At l 0 b s)(lo hi:Int)(hl:Smal l)(hb:b<4611686018427387904)(h2:lo≤hi)(h3 : -1000000≤lo)(h4:hi≤1000000):Ok (Kyd s lo hi) fun r=>(lo≤r.1∧r.1≤hi)∧At l 0 (b+1) r.2:=
 Kvl (Kwb h lo hi hl (by decide) hb h2 (by omega) (by omega)) fun r hr=>⟨⟨hr.1,hr.2.1⟩,hr.2.2.up (by decide) (Int.le_refl _)⟩
theorem Ktv{α:Type}{P:α→Prop}(xs:List α){i n:Int}(h:0≤i∧i<n)(hn:(xs.length:Int)=n)(hp:∀ x∈xs,P x):Ok (getZ xs i) P:=by
 obtain⟨x,hx,e⟩:=Ktg xs h.1 (by omega)
 exact⟨x,e,hp x hx⟩
theorem Ktw(h:At l 0 b s)(hl:Smal l)(hb:b<4611686018427387904):Ok (Kyg s) fun r=>r.1∈keyT∧At l 0 (b+1) r.2:=by
 unfold Kyg
 exact Kvj (Kts (P:=fun x=>x∈keyT) h _ hl (by omega) (by decide) (by decide) (by decide)) fun y1 h1=>Kvi h1
theorem Ktx(h:At l 0 b s)(hl:Smal l)(hb:b<4611686018427387904):Ok (Kyh s) fun r=>r.1∈tagsT∧At l 0 (b+1) r.2:=by
 unfold Kyh
 refine Kvj (Ktq h 6 hl (by omega) (by decide) (by decide)) fun y1 h1=>?_
 exact Kvj (Ktv (P:=fun x=>x∈tagsT) _ h1.1 rfl (by decide)) fun x3 h3=>Kvi ⟨h3,h1.2⟩
theorem Kty(h:At l 0 b s)(hl:Smal l)(hb:b<4611686018427380000)(t:Int):Ok (Kyj s t) fun r=>StepOk r.1∧At l 0 (b+12) r.2:=by
 unfold Kyj
 have n0:([]:Str)∈keyT:=by decide
 have nd0:([]:Str)∈ndT:=by decide
 have jn0:([]:Str)∈jnT:=by decide
 have p0:([]:Str)∈pubT:=by decide
 have t0:([]:List Str)∈tagsT:=by decide
 refine Kvj (Kts (P:=fun x=>x∈keyT) h _ hl (by omega) (by decide) (by decide) (by decide)) fun y1 h1=>?_
 refine Kvj (Ktt h1.2 _ hl (by omega) (by decide) (by decide)) fun y3 h3=>?_
 refine Kvj (Ktw h3 hl (by omega)) fun y5 h5=>?_
 refine Kvj (Kts (P:=fun x=>x∈ndT) h5.2 _ hl (by omega) (by decide) (by decide) (by decide)) fun y7 h7=>?_
 refine Kvj (Kts (P:=fun x=>x∈jnT) h7.2 _ hl (by omega) (by decide) (by decide) (by decide)) fun y9 h9=>?_
 refine Kvj (Kts (P:=fun x=>x∈pubT) h9.2 _ hl (by omega) (by decide) (by decide) (by decide)) fun y11 h11=>?_
 refine Kvj (P:=fun q:Kxw×Kxx=>StepOk q.2∧At l 0 (b+12) q.1) ?_ fun q hq=>Kvi hq
 refine Kvm (fun _=>?_) fun _=>Kvm (fun _=>?_) fun _=>Kvm (fun _=>?_) fun _=>Kvm (fun _=>?_) fun _=>Kvm (fun _=>?_) fun _=>Kvm (fun _=>?_) fun _=>?_
 ·refine Kvj (Ktx h11.2 hl (by omega)) fun y16 h16=>?_
  refine Kvj (Ktt h16.2 _ hl (by omega) (by decide) (by decide)) fun y18 h18=>?_
  refine Kvj (Ktt h18 _ hl (by omega) (by decide) (by decide)) fun y20 h20=>?_
  refine Kvj (Ktr h20 2 hl (by omega) (by decide) (by decide)) fun y22 h22=>?_
  exact Kvi ⟨⟨h1.1,h5.1,nd0,h9.1,n0,p0,h16.1⟩,h22.up (Int.le_refl _) (by omega)⟩
 ·exact Kvi ⟨⟨h1.1,h5.1,nd0,h9.1,n0,p0,t0⟩,h11.2.up (Int.le_refl _) (by omega)⟩
 ·refine Kvj (Kts (P:=fun x=>x∈keyT) h11.2 _ hl (by omega) (by simp) (by simp) (by
   intro x hx
   rcases List.mem_cons.1 hx with rfl | hx
   ·exact Kup _ h7.1
   exact(by decide:∀ x∈([[98,111,120],[98,111,120],[119,101,98]]:List Str),x∈keyT) x hx)) fun y28 h28=>?_
  refine Kvj (Ktr h28.2 4 hl (by omega) (by decide) (by decide)) fun y30 h30=>?_
  refine Kvm (fun _=>?_) fun _=>Kvi ⟨⟨h1.1,h5.1,h7.1,jn0,h28.1,h11.1,t0⟩,h30.up (Int.le_refl _) (by omega)⟩
  refine Kvj (Ktr h30 8 hl (by omega) (by decide) (by decide)) fun y33 h33=>?_
  exact Kvm (fun _=>Kvi ⟨⟨h1.1,n0,h7.1,h9.1,h28.1,h11.1,t0⟩,h33.up (Int.le_refl _) (by omega)⟩) fun _=>Kvi ⟨⟨h1.1,h5.1,h7.1,h9.1,h28.1,h11.1,t0⟩,h33.up (Int.le_refl _) (by omega)⟩
 ·exact Kvi ⟨⟨h1.1,h5.1,h7.1,jn0,n0,h11.1,t0⟩,h11.2.up (Int.le_refl _) (by omega)⟩
 ·refine Kvj (Kts (P:=fun x=>x∈keyT) h11.2 _ hl (by omega) (by decide) (by decide) (by decide)) fun y42 h42=>?_
  exact Kvi ⟨⟨h1.1,h5.1,h7.1,jn0,h42.1,p0,t0⟩,h42.2.up (Int.le_refl _) (by omega)⟩
 ·refine Kvj (Ktx h11.2 hl (by omega)) fun y46 h46=>?_
  exact Kvi ⟨⟨h1.1,h5.1,h7.1,jn0,n0,p0,h46.1⟩,h46.2.up (Int.le_refl _) (by omega)⟩
 exact Kvi ⟨⟨h1.1,h5.1,h7.1,jn0,n0,p0,t0⟩,h11.2.up (Int.le_refl _) (by omega)⟩
end
end Go.Gk
namespace Go.Gk
section
variable{l:List Int}{b:Int}{s:Kxw}
def AllS(m:List Kxx):Prop:=∀ x∈m,StepOk x
theorem AllS.set{m:List Kxx}(h:AllS m){i:Nat}{x:Kxx}(hx:StepOk x):AllS (m.set i x):=fun y hy=>by
 rcases List.mem_or_eq_of_mem_set hy with h1 | rfl
 ·exact h y h1
 exact hx
theorem AllS.nil:AllS []:=fun x hx=>absurd hx List.not_mem_nil
theorem AllS.set2{m:List Kxx}(h:AllS m){i:Nat}{x y:Kxx}(hx:StepOk x)(hy:StepOk y):AllS ((m.set i x).set i y):=(h.set hx).set hy
theorem Kwg:∃ z,Ksc [97] 21=some z∧z∈pubT:=⟨List.replicate 21 97,by rfl,by decide⟩
theorem Kwh(h:At l 0 b s)(hl:Smal l)(hb:b<4611686018427300000)(many:Int)(hm:0≤many)(hm2:many≤12) :
  Ok (Kyu 1000000 s many) fun r=>(AllS r.1∧r.1.length=many.toNat)∧At l 0 (b+1000) r.2:=by
 unfold Kyu
 refine Kvj (Ktq h 5 hl (by omega) (by decide) (by decide)) fun y1 h1=>?_
 refine Kvj (Kvn (dT (by omega)) (Kvo (fun i (st:Kxw×(List Kxx)×(List (Str×Int))×Int)=>At l 0 (b+1+13 * i) st.1∧AllS st.2.1∧st.2.1.length=i) ⟨h1.2.up (Int.le_refl _) (by simp),AllS.nil,rfl⟩ fun i st hi hI=>?_)) fun q6 h6=>?_
 ·obtain⟨i1,i2,i3⟩:=hI
  refine Kvj (Kty i1 hl (by omega) _) fun y15 h15=>?_
  refine Kvs (by simp only[List.length_cons,List.length_nil];omega) ?_
  refine Kvj (Ktt h15.2 _ hl (by omega) (by decide) (by decide)) fun y19 h19=>Kvi ⟨h19.up (Int.le_refl _) (by omega),?_,?_⟩
  ·intro x hx
   rcases List.mem_append.1 hx with g1 | g1
   ·exact i2 x g1
   ·rw[List.mem_singleton.1 g1];exact⟨h15.1.sv,h15.1.by_,h15.1.nd,h15.1.jn,h15.1.nm,h15.1.pb,h15.1.tg⟩
  ·simp only[List.length_append,List.length_cons,List.length_nil];omega
 ·obtain⟨i1,i2,i3⟩:=h6
  refine Kvj (Kwf q6.2.1 (by omega)) fun y21 h21=>Kvn (dT h21.1) ?_
  have hy:AllS y21:=fun x hx=>i2 x (h21.2 x hx)
  have hyl:y21.length=many.toNat:=h21.1.trans i3
  refine Kvj (P:=fun q:Kxw×Bool=>At l 0 (b+200) q.1∧(q.2=true→0<y21.length)) (Kvm (fun g=>?_) fun _=>Kvi ⟨i1.up (Int.le_refl _) (by omega),fun g=>by cases g⟩) fun q25 h25=>?_
  ·have:=of_decide_eq_true g
   exact Kvj (Ktr i1 15 hl (by omega) (by decide) (by decide)) fun y28 h28=>Kvi ⟨h28.up (Int.le_refl _) (by omega),fun _=>by omega⟩
  ·refine Kvj (P:=fun q:Kxw×List Kxx=>(AllS q.2∧q.2.length=many.toNat)∧At l 0 (b+1000) q.1) (Kvm (fun g=>?_) fun _=>Kvi ⟨⟨hy,hyl⟩,h25.1.up (Int.le_refl _) (by omega)⟩) fun q31 h31=>Kvi h31
   have hn:=h25.2 g
   refine Kvj (Ktq h25.1 _ hl (by omega) (by omega) (by omega)) fun y34 h34=>?_
   refine Kvj (Ktv (P:=StepOk) y21 h34.1 rfl hy) fun x36 h36=>?_
   refine Kvj (Ktq h34.2 6 hl (by omega) (by decide) (by decide)) fun y39 h39=>?_
   refine Kvm (fun _=>?_) fun _=>Kvm (fun _=>?_) fun _=>Kvm (fun _=>?_) fun _=>Kvm (fun _=>?_) fun _=>Kvm (fun _=>?_) fun _=>?_
   ·refine Kvj (Ktt h39.2 _ hl (by omega) (by decide) (by decide)) fun y42 h42=>Kvi ⟨⟨hy.set ⟨h36.sv,h36.by_,h36.nd,h36.jn,h36.nm,h36.pb,h36.tg⟩,by rw[List.length_set];exact hyl⟩,h42.up (Int.le_refl _) (by omega)⟩
   ·refine Kvj (Kts (P:=fun x=>x∈keyT) h39.2 _ hl (by omega) (by decide) (by decide) (by decide)) fun y46 h46=>?_
    refine Kvj (Ktt h46.2 _ hl (by omega) (by decide) (by decide)) fun y48 h48=>Kvi ⟨⟨(AllS.set2 hy (x:=_) (y:=_) ?_ ?_),by rw[List.length_set,List.length_set];exact hyl⟩,h48.up (Int.le_refl _) (by omega)⟩
    ·exact⟨h46.1,h36.by_,h36.nd,h36.jn,h36.nm,h36.pb,h36.tg⟩
    ·exact⟨h46.1,h36.by_,h36.nd,h36.jn,h36.nm,h36.pb,h36.tg⟩
   ·refine Kvj (Ktt h39.2 _ hl (by omega) (by decide) (by decide)) fun y53 h53=>Kvi ⟨⟨hy.set ⟨h36.sv,h36.by_,h36.nd,h36.jn,h36.nm,h36.pb,h36.tg⟩,by rw[List.length_set];exact hyl⟩,h53.up (Int.le_refl _) (by omega)⟩
   ·refine Kvj (Kts (P:=fun x=>x∈keyT) h39.2 _ hl (by omega) (by decide) (by decide) (by decide)) fun y57 h57=>?_
    refine Kvj (Kts (P:=fun x=>x∈ndT) h57.2 _ hl (by omega) (by decide) (by decide) (by decide)) fun y59 h59=>Kvi ⟨⟨(AllS.set2 hy (x:=_) (y:=_) ?_ ?_),by rw[List.length_set,List.length_set];exact hyl⟩,h59.2.up (Int.le_refl _) (by omega)⟩
    ·exact⟨h36.sv,h57.1,h36.nd,h36.jn,h36.nm,h36.pb,h36.tg⟩
    ·exact⟨h36.sv,h57.1,h59.1,h36.jn,h36.nm,h36.pb,h36.tg⟩
   ·obtain⟨z,hz,hz2⟩:=Kwg
    refine Kvk hz ?_
    refine Kvj (Kts (P:=fun x=>x∈pubT) h39.2 _ hl (by omega) (by simp) (by simp) (by
     intro x hx
     simp only[List.mem_cons,List.not_mem_nil,or_false] at hx
     rcases hx with rfl | rfl | rfl | rfl
     ·decide
     ·decide
     ·decide
     ·exact hz2)) fun y66 h66=>?_
    refine Kvj (Ktt h66.2 _ hl (by omega) (by decide) (by decide)) fun y68 h68=>Kvi ⟨⟨(AllS.set2 hy (x:=_) (y:=_) ?_ ?_),by rw[List.length_set,List.length_set];exact hyl⟩,h68.up (Int.le_refl _) (by omega)⟩
    ·exact⟨h36.sv,h36.by_,h36.nd,h36.jn,h36.nm,h66.1,h36.tg⟩
    ·exact⟨h36.sv,h36.by_,h36.nd,h36.jn,h36.nm,h66.1,h36.tg⟩
   ·refine Kvj (Ktq h39.2 3 hl (by omega) (by decide) (by decide)) fun y72 h72=>?_
    exact Kvj (Ktv (P:=fun x=>x∈tagsT) _ h72.1 rfl (by decide)) fun x74 h74=>Kvi ⟨⟨hy.set ⟨h36.sv,h36.by_,h36.nd,h36.jn,h36.nm,h36.pb,h74⟩,by rw[List.length_set];exact hyl⟩,h72.2.up (Int.le_refl _) (by omega)⟩
end
end Go.Gk
