import Derived.Test.YtfnjahjbpaoepaaGreatDoorBD
set_option linter.all false
set_option maxRecDepth 100000
namespace Go.Gk
theorem Kbz(n:Int):(runeS n).length≤4:=by
 unfold runeS Utf8.encode
 simp only
 repeat' split
 all_goals simp
theorem Lfu(l:List Int)(a:Int)(t w:Str)(hl:l.length≤9223372036854775807)(h0:0≤a)(h1:a<4611686018427300000)(ht:t.length≤350000)(hw:1≤w.length∧w.length≤100) :
  ∃ r a',r.length≤t.length+100∧a≤a'∧a'≤a+3∧Lan ⟨l,a⟩ t w=some (r,⟨l,a'⟩):=by
 unfold Lan
 cases he:((t==[])||(w==[])) with
 | true=>exact⟨w,a,by omega,by omega,by omega,rfl⟩
 | false=>
  rw[Bool.or_eq_false_iff] at he
  have htn:t≠[]:=by simpa using he.1
  have htl:=List.length_pos_iff.2 htn
  obtain⟨i,i0,i1,hi⟩:=Kte l a (t.length:Int) hl h0 (by omega) (by omega) (by omega)
  obtain⟨j,j0,j1,hj⟩:=Kte l (a+1) (w.length:Int) hl (by omega) (by omega) (by omega) (by omega)
  obtain⟨c,_,hc⟩:=Ktg w j0 j1
  obtain⟨k,k0,k1,hk⟩:=Kte l (a+1+1) 3 hl (by omega) (by omega) (by decide) (by decide)
  have hsub:∀ lo hi:Int,0≤lo→lo≤hi→hi≤(t.length:Int)→∃ z:Str,subZ t lo hi=some z∧z.length≤(hi - lo).toNat:=fun lo hi h1 h2 h3=>by
   unfold subZ
   rw[dT h1,dT h2,dT h3]
   refine⟨_,rfl,?_⟩
   simp;omega
  have hw1:wi (i+1)=i+1:=Ktc (by omega) (by omega)
  obtain⟨z1,s1,n1⟩:=hsub 0 i (by omega) i0 (by omega)
  obtain⟨z2,s2,n2⟩:=hsub (i+1) (t.length:Int) (by omega) (by omega) (by omega)
  obtain⟨z3,s3,n3⟩:=hsub i (t.length:Int) (by omega) (by omega) (by omega)
  simp only[cond_false,hi,hj,hc,hk,bi_some,hw1,s1,s2,s3]
  have hr:=Kbz (IntKind.i32.wrap (c.toNat:Int))
  generalize runeS (IntKind.i32.wrap (c.toNat:Int))=q at hr
  cases (k==0) with
  | true=>
   rw[cond_true,Kag (by omega),bi_some,Kag (by rw[List.length_append];omega),bi_some]
   exact⟨_,a+1+1+1,by simp only[List.length_append];omega,by omega,by omega,rfl⟩
  | false=>
   cases (k==1) with
   | true=>
    rw[cond_false,cond_true,Kag (by omega),bi_some,Kag (by rw[List.length_append];omega),bi_some]
    exact⟨_,a+1+1+1,by simp only[List.length_append];omega,by omega,by omega,rfl⟩
   | false=>
    rw[cond_false,cond_false,Kag (by omega),bi_some]
    exact⟨_,a+1+1+1,by simp only[List.length_append];omega,by omega,by omega,rfl⟩
section
variable{l:List Int}{b:Int}{s:Kxw}
theorem Kca(h:At l 0 b s)(hl:Smal l)(hb:b<4611686018427300000)(t w:Str)(ht:t.length≤350000)(hw:1≤w.length∧w.length≤100):Ok (Lan s t w) fun r=>r.1.length≤t.length+100∧At l 0 (b+3) r.2:=by
 obtain⟨e1,e2,e3⟩:=h
 obtain⟨r,a',h1,h2,h3,h4⟩:=Lfu l s.v_at t w hl (by omega) (by omega) ht hw
 rw[←e1] at h4
 exact⟨_,h4,h1,e1,by show 0≤a';omega,by show a'≤b+3;omega⟩
theorem Kcb(h:At l 0 b s)(hl:Smal l)(hb:b<4611686018427200000)(many:Int)(hm:0≤many)(hm2:many≤12) :
  Ok (Lam 1000000 s many) fun r=>(∀ x∈r.1,GoodS x)∧r.1.length≤12∧At l 0 (b+5000) r.2:=by
 unfold Lam
 refine Kvj (Kvq (fun st:Kxw×Int=>0≤st.2∧st.2≤5∧At l 0 (b+1000 * st.2) st.1) (fun st=>(5 - st.2).toNat) (fun r:Kxw ⊕ ((List Kxx)×Kxw)=>match r with | .inl q=>At l 0 (b+5000) q | .inr x=>(∀ y∈x.1,GoodS y)∧x.1.length≤12∧At l 0 (b+5000) x.2) ⟨Int.le_refl _,(show(0:Int)≤5 by decide),h.up (Int.le_refl _) (by simp)⟩ (by simp) fun st hI=>?_) fun r hr=>?_
 ·obtain⟨i0,i1,hA⟩:=hI
  refine Kvm (fun hc=>?_) fun hc=>Kvi (hA.up (Int.le_refl _) (by omega))
  have hlt:st.2<5:=of_decide_eq_true hc
  refine Kvj (Kwh hA hl (by omega) many hm hm2) fun y12 h12=>?_
  obtain⟨e,c1,c2,c3⟩:=Lft fun x hx=>(h12.1.1 x hx).g
  refine Kvk c2 ?_
  have hw:wi (st.2+1)=st.2+1:=Ktc (by omega) (by omega)
  refine Kvm (fun he=>?_) fun he=>Kvi ⟨⟨?_,?_,?_⟩,?_⟩
  ·have he0:e=0:=by simpa using he
   exact Kvi ⟨fun x hx=>Lfz (h12.1.1 x hx) ((c3 he0).2 x hx),by have:=h12.1.2;show y12.1.length≤12;omega,h12.2.up (Int.le_refl _) (by omega)⟩
  ·simp only[hw];omega
  ·simp only[hw];omega
  ·simp only[hw];exact h12.2.up (Int.le_refl _) (by omega)
  ·simp only[hw];omega
 ·cases r with
  | inl q=>exact Kvi ⟨fun x hx=>(by cases hx),Nat.zero_le _,hr⟩
  | inr x=>exact Kvi hr
theorem Kcc(h:At l 0 b s)(hl:Smal l)(hb:b<4611686018427100000):Ok (Lao 1000000 s) fun r=>True:=by
 unfold Lao
 refine Kvj (Ktu h 0 4 hl (by omega) (by decide) (by decide) (by decide)) fun y1 h1=>?_
 refine Kvj (Kcb h1.2 hl (by omega) y1.1 (by omega) (by omega)) fun y3 h3=>?_
 obtain⟨t,_,t2,t3⟩:=Kcy h3.1 (by have:=h3.2.1;omega)
 refine Kvk t2 ?_
 refine Kvj (Kvz h3.2.2 [0,0,1,2] hl (by decide) (by omega) (by decide) (by decide)) fun y7 h7=>?_
 have hn:0≤y7.1∧y7.1≤2:=by
  have:=h7.1
  simp only[List.mem_cons,List.not_mem_nil,or_false] at this
  omega
 refine Kvj (Kvn (dT (by omega)) (Kvo (fun i (st:Kxw×Str)=>At l 0 (b+5002+3 * i) st.1∧st.2.length≤100000+100 * i) ⟨h7.2.up (by decide) (by simp;omega),by simpa using t3⟩ fun i st hi hI=>?_)) fun q12 h12=>Kvi trivial
 refine Kvj (Kca hI.1 hl (by omega) st.2 _ (by have:=hI.2;omega) (by decide)) fun y21 h21=>?_
 exact Kvi ⟨h21.2.up (Int.le_refl _) (by push_cast;omega),by have:=hI.2;have:=h21.1;show y21.1.length≤_;omega⟩
end
theorem Kcd:Lbs 1000000=some true:=by rfl
theorem StepTexts_true(l:List Int)(hl:l.length≤9223372036854775807):Lbt 1000000 l=some true:=by
 have key:Ok (Lbt 1000000 l) fun r=>r=true:=by
  unfold Lbt
  refine Kvj (Ktu (b:=0) (l:=l) ⟨rfl,Int.le_refl 0,Int.le_refl 0⟩ 0 5 hl (by decide) (by decide) (by decide) (by decide)) fun y1 h1=>?_
  refine Kvj (Kwh h1.2 hl (by decide) y1.1 (by omega) (by omega)) fun y3 h3=>?_
  obtain⟨t,e,t1,t2,t3,t4⟩:=Kcz h3.1.1 (by have:=h3.1.2;omega)
  refine Kvk t1 (Kvk t2 ?_)
  refine Kvk (r:=false) ?_ ?_
  ·show(bif (e:Int) != e then(some true) else(bi (bif (e:Int)==0 then(bi (Lal y3.1) fun y16=>some (!((t:Str)==y16))) else(some false)) fun q13=>some q13))=some false
   rw[show((e:Int) != e)=false by simp,cond_false]
   by_cases he:e=0
   ·rw[beq_iff_eq.2 he,cond_true,(t3 he).1,bi_some,beq_self_eq_true]
    rfl
   rw[beq_eq_false_iff_ne.2 he]
   rfl
  have hq:(false||(((e:Int) != 0)&&(!((t:Str)==[]))))=false:=by
   by_cases he:e=0
   ·subst he;rfl
   rw[t4 he];simp
  simp only
  rw[hq,cond_false]
  refine Kvj (Kcc h3.2 hl (by decide)) fun y21 _=>?_
  obtain⟨z,er,j,r1,r2⟩:=Kcq y21.1
  refine Kvk r1 (Kvk r2 ?_)
  simp only[beq_self_eq_true,Bool.and_self,cond_true,Kdb,bi_some,Kcd]
  exact Kvi rfl
 obtain⟨r,h,rfl⟩:=key
 exact h
end Go.Gk
