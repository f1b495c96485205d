import Derived.Test.YtjmlnnanfkiakaaGreatDoorSSort
set_option linter.all false
set_option maxRecDepth 100000
namespace Go.Gk
abbrev Smal(l:List Int):Prop:=l.length≤9223372036854775807
section
variable{l:List Int}{b:Int}{s:Lbv}
theorem Kaa(h:At l 0 b s)(n:Int)(hl:Smal l)(hb:b<4611686018427387904)(hn:1≤n)(hn2:n≤1000000):Ok (Lcl s n) fun r=>(0≤r.1∧r.1<n)∧At l 0 (b+1) r.2:=by
 obtain⟨e1,e2,e3⟩:=h
 obtain⟨r,h1,h2,h3⟩:=Kxo l s.v_at n hl (by omega) (by omega) hn (by omega)
 rw[←e1] at h3
 exact⟨_,h3,⟨h1,h2⟩,e1,by simp only;omega,by simp only;omega⟩
theorem Kab(h:At l 0 b s)(n:Int)(hl:Smal l)(hb:b<4611686018427387904)(hn:1≤n)(hn2:n≤1000000):Ok (Lco s n) fun r=>At l 0 (b+1) r.2:=
 Lae (Lbc h n hl (by decide) hb hn (by omega)) fun r hr=>hr.up (by decide) (Int.le_refl _)
theorem Kac{P:Str→Prop}(h:At l 0 b s)(xs:List Str)(hl:Smal l)(hb:b<4611686018427387904)(hn:1≤xs.length)(hn2:xs.length≤1000)(hp:∀ x∈xs,P x):Ok (Lcq s xs) fun r=>P r.1∧At l 0 (b+1) r.2:=
 Lae (Lbe h xs hl (by decide) hb hn hn2) fun r hr=>⟨hp _ hr.1,hr.2.up (by decide) (Int.le_refl _)⟩
theorem Kad(h:At l 0 b s)(xs:List Int)(hl:Smal l)(hb:b<4611686018427387904)(hn:1≤xs.length)(hn2:xs.length≤1000):Ok (Lcn s xs) fun r=>At l 0 (b+1) r.2:=
 Lae (Lbd h xs hl (by decide) hb hn hn2) fun r hr=>hr.2.up (by decide) (Int.le_refl _)
theorem Kae(h:At l 0 b s)(lo hi:Int)(hl:Smal l)(hb:b<4611686018427387904)(h2:lo≤hi)(h3 : -1000000≤lo)(h4:hi≤1000000):Ok (Lcm s lo hi) fun r=>(lo≤r.1∧r.1≤hi)∧At l 0 (b+1) r.2:=
 Lae (Lbf h lo hi hl (by decide) hb h2 (by omega) (by omega)) fun r hr=>⟨⟨hr.1,hr.2.1⟩,hr.2.2.up (by decide) (Int.le_refl _)⟩
theorem Kaf{α:Type}{P:α→Prop}(xs:List α){i n:Int}(h:0≤i∧i<n)(hn:(xs.length:Int)=n)(hp:∀ x∈xs,P x):Ok (getZ xs i) P:=by
 obtain⟨x,hx,e⟩:=Kxq xs h.1 (by omega)
 exact⟨x,e,hp x hx⟩
theorem Kag(h:At l 0 b s)(hl:Smal l)(hb:b<4611686018427380000):Ok (Lcp s) fun r=>(DirOk r.1∧2≤r.1.Owners.length∧r.1.Owners.length≤5∧r.1.Users.length≤5∧∀ o∈r.1.Owners,o.Users.length≤3)∧At l 0 (b+4) r.2:=by
 unfold Lcp
 refine Lac (Kaa h 3 hl (by omega) (by decide) (by decide)) fun y1 h1=>?_
 refine Lac (Kaf (P:=fun x:List Str=>x.length≤3) _ h1.1 rfl (by decide)) fun x3 h3=>?_
 refine Lac (Kaa h1.2 2 hl (by omega) (by decide) (by decide)) fun y5 h5=>?_
 refine Lac (Kaf (P:=fun x:List Str=>x.length≤3) _ h5.1 rfl (by decide)) fun x7 h7=>?_
 refine Lac (Kad h5.2 _ hl (by omega) (by decide) (by decide)) fun y9 h9=>?_
 refine Lac (Kab h9 3 hl (by omega) (by decide) (by decide)) fun y11 h11=>Lab ?_
 have hu:∀ o∈[(⟨[100,98],x3⟩:Lbw),(⟨[119,101,98],x7⟩:Lbw)],o.Users.length≤3:=by
  intro o ho
  simp only[List.mem_cons,List.not_mem_nil,or_false] at ho
  rcases ho with rfl | rfl
  ·exact h3
  exact h7
 refine⟨⟨⟨?_,(by simp),?_,(by simp)⟩,(by simp),(by simp),(by simp),hu⟩,h11.up (Int.le_refl _) (by omega)⟩
 ·exact(by decide:∀ x∈([[97,110,110],[98,111,98],[99,105,100]]:List Str),x∈keyT)
 intro o ho
 refine⟨?_,Nat.le_trans (hu o ho) (by decide)⟩
 simp only[List.mem_cons,List.not_mem_nil,or_false] at ho
 rcases ho with rfl | rfl
 ·exact(by decide:([100,98]:Str)∈keyT)
 exact(by decide:([119,101,98]:Str)∈keyT)
theorem Kah(h:At l 0 b s)(hl:Smal l)(hb:b<4611686018427380000):Ok (Lcr s) fun r=>DirOk r.1∧At l 0 (b+10) r.2:=by
 unfold Lcr
 refine Lac (Kag h hl hb) fun y1 h1=>?_
 obtain⟨⟨d1,d2,d3,d4,d5⟩,h1⟩:=h1
 refine Lac (Kab h1 15 hl (by omega) (by decide) (by decide)) fun y3 h3=>?_
 refine Lac (P:=fun q:Lbv×List Str×List Lbw×Int=>DirOk ⟨q.2.1,q.2.2.1,q.2.2.2,y1.1.Approve⟩∧At l 0 (b+10) q.1) ?_ fun q hq=>Lab hq
 refine Laf (fun _=>?_) fun _=>Lab ⟨⟨d1.us,d1.ul,d1.ow,d1.ol⟩,h3.up (Int.le_refl _) (by omega)⟩
 refine Lac (Kaa h3 4 hl (by omega) (by decide) (by decide)) fun y8 h8=>?_
 refine Laf (fun _=>?_) fun _=>Laf (fun _=>?_) fun _=>Laf (fun _=>?_) fun _=>?_
 ·refine Lac (Kac (P:=fun x=>x∈keyT) h8.2 _ hl (by omega) (by decide) (by decide) (by decide)) fun y11 h11=>?_
  refine Lam (by simp only[List.length_cons,List.length_nil];omega) (Lab ⟨⟨?_,?_,d1.ow,d1.ol⟩,h11.2.up (Int.le_refl _) (by omega)⟩)
  ·intro x hx
   rcases List.mem_append.1 hx with h1 | h1
   ·exact d1.us x h1
   rw[List.mem_singleton.1 h1];exact h11.1
  simp only[List.length_append,List.length_cons,List.length_nil];omega
 ·refine Lac (Kac (P:=fun x=>x∈keyT) h8.2 _ hl (by omega) (by decide) (by decide) (by decide)) fun y17 h17=>?_
  refine Lac (Kac (P:=fun x=>x∈keyT) h17.2 _ hl (by omega) (by decide) (by decide) (by decide)) fun y19 h19=>?_
  refine Lam (by simp only[List.length_cons,List.length_nil];omega) (Lab ⟨⟨d1.us,d1.ul,?_,?_⟩,h19.2.up (Int.le_refl _) (by omega)⟩)
  ·intro x hx
   rcases List.mem_append.1 hx with h1 | h1
   ·exact d1.ow x h1
   rw[List.mem_singleton.1 h1];exact⟨h17.1,by simp⟩
  simp only[List.length_append,List.length_cons,List.length_nil];omega
 ·refine Lac (Kac (P:=fun x=>x∈keyT) h8.2 _ hl (by omega) (by decide) (by decide) (by decide)) fun y25 h25=>?_
  refine Lal (j:=0) (x:=y1.1.Owners[0]'(by omega)) rfl (List.getElem?_eq_getElem _) (Lab ⟨⟨d1.us,d1.ul,?_,?_⟩,h25.2.up (Int.le_refl _) (by omega)⟩)
  ·intro x hx
   rcases List.mem_or_eq_of_mem_set hx with h1 | rfl
   ·exact d1.ow x h1
   exact⟨(d1.ow _ (List.getElem_mem _)).1,by simp⟩
  rw[List.length_set];exact d1.ol
 refine Lac (Kad h8.2 _ hl (by omega) (by decide) (by decide)) fun y31 h31=>?_
 exact Lab ⟨⟨d1.us,d1.ul,d1.ow,d1.ol⟩,h31.up (Int.le_refl _) (by omega)⟩
theorem Kai(h:At l 0 b s)(hl:Smal l)(hb:b<4611686018427387904):Ok (Lcs s) fun r=>r.1∈keyT∧At l 0 (b+1) r.2:=by
 unfold Lcs
 exact Lac (Kac (P:=fun x=>x∈keyT) h _ hl (by omega) (by decide) (by decide) (by decide)) fun y1 h1=>Lab h1
theorem Kaj(h:At l 0 b s)(hl:Smal l)(hb:b<4611686018427387904):Ok (Lct s) fun r=>r.1∈tagsT∧At l 0 (b+1) r.2:=by
 unfold Lct
 refine Lac (Kaa h 6 hl (by omega) (by decide) (by decide)) fun y1 h1=>?_
 exact Lac (Kaf (P:=fun x=>x∈tagsT) _ h1.1 rfl (by decide)) fun x3 h3=>Lab ⟨h3,h1.2⟩
theorem Kak(h:At l 0 b s)(hl:Smal l)(hb:b<4611686018427380000)(t:Int):Ok (Lcu s t) fun r=>StepOk r.1∧At l 0 (b+12) r.2:=by
 unfold Lcu
 have n0:([]:Str)∈keyT:=by decide
 have nd0:([]:Str)∈ndT:=by decide
 have jn0:([]:Str)∈jnT:=by decide
 have p0:([]:Str)∈pubT:=by decide
 have t0:([]:List Str)∈tagsT:=by decide
 refine Lac (Kac (P:=fun x=>x∈keyT) h _ hl (by omega) (by decide) (by decide) (by decide)) fun y1 h1=>?_
 refine Lac (Kad h1.2 _ hl (by omega) (by decide) (by decide)) fun y3 h3=>?_
 refine Lac (Kai h3 hl (by omega)) fun y5 h5=>?_
 refine Lac (Kac (P:=fun x=>x∈ndT) h5.2 _ hl (by omega) (by decide) (by decide) (by decide)) fun y7 h7=>?_
 refine Lac (Kac (P:=fun x=>x∈jnT) h7.2 _ hl (by omega) (by decide) (by decide) (by decide)) fun y9 h9=>?_
 refine Lac (Kac (P:=fun x=>x∈pubT) h9.2 _ hl (by omega) (by decide) (by decide) (by decide)) fun y11 h11=>?_
 refine Lac (P:=fun q:Lbv×Lby=>StepOk q.2∧At l 0 (b+12) q.1) ?_ fun q hq=>Lab hq
 refine Laf (fun _=>?_) fun _=>Laf (fun _=>?_) fun _=>Laf (fun _=>?_) fun _=>Laf (fun _=>?_) fun _=>Laf (fun _=>?_) fun _=>Laf (fun _=>?_) fun _=>?_
 ·refine Lac (Kaj h11.2 hl (by omega)) fun y16 h16=>?_
  refine Lac (Kad h16.2 _ hl (by omega) (by decide) (by decide)) fun y18 h18=>?_
  refine Lac (Kad h18 _ hl (by omega) (by decide) (by decide)) fun y20 h20=>?_
  refine Lac (Kab h20 2 hl (by omega) (by decide) (by decide)) fun y22 h22=>?_
  exact Lab ⟨⟨h1.1,h5.1,nd0,h9.1,n0,p0,h16.1⟩,h22.up (Int.le_refl _) (by omega)⟩
 ·exact Lab ⟨⟨h1.1,h5.1,nd0,h9.1,n0,p0,t0⟩,h11.2.up (Int.le_refl _) (by omega)⟩
 ·refine Lac (Kac (P:=fun x=>x∈keyT) h11.2 _ hl (by omega) (by simp) (by simp) (by
   intro x hx
   rcases List.mem_cons.1 hx with rfl | hx
   ·exact Kyy _ h7.1
   exact(by decide:∀ x∈([[98,111,120],[98,111,120],[119,101,98]]:List Str),x∈keyT) x hx)) fun y28 h28=>?_
  refine Lac (Kab h28.2 4 hl (by omega) (by decide) (by decide)) fun y30 h30=>?_
  refine Laf (fun _=>?_) fun _=>Lab ⟨⟨h1.1,h5.1,h7.1,jn0,h28.1,h11.1,t0⟩,h30.up (Int.le_refl _) (by omega)⟩
  refine Lac (Kab h30 8 hl (by omega) (by decide) (by decide)) fun y33 h33=>?_
  exact Laf (fun _=>Lab ⟨⟨h1.1,n0,h7.1,h9.1,h28.1,h11.1,t0⟩,h33.up (Int.le_refl _) (by omega)⟩) fun _=>Lab ⟨⟨h1.1,h5.1,h7.1,h9.1,h28.1,h11.1,t0⟩,h33.up (Int.le_refl _) (by omega)⟩
 ·exact Lab ⟨⟨h1.1,h5.1,h7.1,jn0,n0,h11.1,t0⟩,h11.2.up (Int.le_refl _) (by omega)⟩
 ·refine Lac (Kac (P:=fun x=>x∈keyT) h11.2 _ hl (by omega) (by decide) (by decide) (by decide)) fun y42 h42=>?_
  exact Lab ⟨⟨h1.1,h5.1,h7.1,jn0,h42.1,p0,t0⟩,h42.2.up (Int.le_refl _) (by omega)⟩
 ·refine Lac (Kaj h11.2 hl (by omega)) fun y46 h46=>?_
  exact Lab ⟨⟨h1.1,h5.1,h7.1,jn0,n0,p0,h46.1⟩,h46.2.up (Int.le_refl _) (by omega)⟩
 exact Lab ⟨⟨h1.1,h5.1,h7.1,jn0,n0,p0,t0⟩,h11.2.up (Int.le_refl _) (by omega)⟩
end
end Go.Gk
