import Derived.Test.YtfnjahjbpaoepaaGreatDoorIRead
set_option linter.all false
set_option maxRecDepth 100000
namespace Go.Gk
theorem Kpv(n:Int):(runeS n).length≤4:=by
 unfold runeS Utf8.encode
 simp only
 repeat' split
 all_goals simp
theorem Lhv(l:List Int)(a:Int)(t w:Str)(hl:l.length≤9223372036854775807)(h0:0≤a)(h1:a<4611686018427300000)(ht:t.length≤3500)(hw:1≤w.length∧w.length≤100) :
  ∃ r a',r.length≤t.length+100∧a≤a'∧a'≤a+3∧Lcc ⟨l,a⟩ t w=some (r,⟨l,a'⟩):=by
 unfold Lcc
 cases he:((t==[])||(w==[])) with
 | true=>exact⟨w,a,by omega,by omega,by omega,rfl⟩
 | false=>
  rw[Bool.or_eq_false_iff] at he
  have htn:t≠[]:=by simpa using he.1
  have htl:=List.length_pos_iff.2 htn
  obtain⟨i,i0,i1,hi⟩:=Kvw l a (t.length:Int) hl h0 (by omega) (by omega) (by omega)
  obtain⟨j,j0,j1,hj⟩:=Kvw l (a+1) (w.length:Int) hl (by omega) (by omega) (by omega) (by omega)
  obtain⟨c,_,hc⟩:=Kvy w j0 j1
  obtain⟨k,k0,k1,hk⟩:=Kvw l (a+1+1) 3 hl (by omega) (by omega) (by decide) (by decide)
  have hsub:∀ lo hi:Int,0≤lo→lo≤hi→hi≤(t.length:Int)→∃ z:Str,subZ t lo hi=some z∧z.length≤(hi - lo).toNat:=fun lo hi h1 h2 h3=>by
   unfold subZ
   rw[dT h1,dT h2,dT h3]
   refine⟨_,rfl,?_⟩
   simp;omega
  have hw1:wi (i+1)=i+1:=Kvu (by omega) (by omega)
  obtain⟨z1,s1,n1⟩:=hsub 0 i (by omega) i0 (by omega)
  obtain⟨z2,s2,n2⟩:=hsub (i+1) (t.length:Int) (by omega) (by omega) (by omega)
  obtain⟨z3,s3,n3⟩:=hsub i (t.length:Int) (by omega) (by omega) (by omega)
  simp only[cond_false,hi,hj,hc,hk,bi_some,hw1,s1,s2,s3]
  have hr:=Kpv (IntKind.i32.wrap (c.toNat:Int))
  generalize runeS (IntKind.i32.wrap (c.toNat:Int))=q at hr
  cases (k==0) with
  | true=>
   rw[cond_true,Kst (by omega),bi_some,Kst (by rw[List.length_append];omega),bi_some]
   exact⟨_,a+1+1+1,by simp only[List.length_append];omega,by omega,by omega,rfl⟩
  | false=>
   cases (k==1) with
   | true=>
    rw[cond_false,cond_true,Kst (by omega),bi_some,Kst (by rw[List.length_append];omega),bi_some]
    exact⟨_,a+1+1+1,by simp only[List.length_append];omega,by omega,by omega,rfl⟩
   | false=>
    rw[cond_false,cond_false,Kst (by omega),bi_some]
    exact⟨_,a+1+1+1,by simp only[List.length_append];omega,by omega,by omega,rfl⟩
def rowT(x:Kzq):Str:=lineT x.Prefix++[32]++x.Node++[32]++Lib.itoa x.Weight++[10]
def textT(l:List Kzq):Str:=l.flatMap rowT
structure GoodR(x:Kzq):Prop where
 ad:AOk x.Prefix.Addr
 pf:pfA x.Prefix=0
 ky:keyB x.Node=true
 w0:0≤x.Weight
 w1:x.Weight≤1000
theorem Kpw:∀ n:Fin 1001,(Lib.decDigits n.val).length≤4:=by decide +kernel
theorem GoodR.w{x:Kzq}(h:GoodR x):(Lib.itoa x.Weight).length≤4:=by
 have h0:=h.w0;have h1:=h.w1
 have:=Kpw ⟨x.Weight.toNat,by omega⟩
 rw[show x.Weight=((x.Weight.toNat:Nat):Int) by omega,Krl]
 exact this
theorem GoodR.n{x:Kzq}(h:GoodR x):x.Node.length≤40:=by
 have:=h.ky
 unfold keyB at this
 simp only[Bool.and_eq_true,decide_eq_true_eq] at this
 omega
theorem GoodR.len{x:Kzq}(h:GoodR x):(rowT x).length≤141:=by
 have h1:=h.w;have h2:=h.n
 have h3:=(Krw h.ad (Krv h.pf).1 (Krv h.pf).2).2.2
 unfold rowT
 simp
 omega
def rwP(i5:Nat)(x7:Kzq)(s6:List UInt8):Option (List UInt8):=bi (Lbg 4000 x7.Prefix) fun y16=>bi (catZ y16.1 [32]) fun y18=>bi (catZ y18 x7.Node) fun y20=>bi (catZ y20 [32]) fun y22=>bi (Ktl x7.Weight) fun y24=>bi (catZ y22 y24) fun y26=>bi (catZ y26 [10]) fun y28=>bi (Lbh s6 y28) fun y30=>some y30.2
def rwR(i1:Nat)(x3:Kzq)(s2:List UInt8):Option (List UInt8):=bi (Lca 4000 x3.Prefix) fun y12=>bi (catZ y12 [32]) fun y14=>bi (catZ y14 x3.Node) fun y16=>bi (catZ y16 [32]) fun y18=>bi (Ktl x3.Weight) fun y20=>bi (catZ y18 y20) fun y22=>bi (catZ y22 [10]) fun y24=>bi (Lbh s2 y24) fun y26=>some y26.2
theorem Kpx{b s:Str}(h:b.length+s.length≤100000):Lbh b s=some ((s.length:Int),b++s):=by
 unfold Lbh
 rw[show Kjl b=some () from rfl,bi_some,Kov (Kwa (by omega))]
theorem Kpy{x:Kzq}(h:GoodR x)(s:Str)(hs:s.length≤10000):(bi (catZ (lineT x.Prefix) [32]) fun y18=>bi (catZ y18 x.Node) fun y20=>bi (catZ y20 [32]) fun y22=>bi (Ktl x.Weight) fun y24=>bi (catZ y22 y24) fun y26=>bi (catZ y26 [10]) fun y28=>bi (Lbh s y28) fun y30=>some y30.2)=some (s++rowT x):=by
 have h1:=h.w;have h2:=h.n
 have h3:=(Krw h.ad (Krv h.pf).1 (Krv h.pf).2).2.2
 have h4:=h.w0;have h5:=h.w1
 rw[Kov (Kst (by simp;omega)),Kov (Kst (by simp;omega)),Kov (Kst (by simp;omega)),Kov (Krq (by omega) (by omega)),Kov (Kst (by simp;omega)),Kov (Kst (by simp;omega)),Kov (Kpx (by simp;omega))]
 rfl
theorem Kpz{x:Kzq}(h:GoodR x)(i:Nat)(s:Str)(hs:s.length≤10000):rwP i x s=some (s++rowT x):=by
 have hp:Lbg 4000 x.Prefix=some (lineT x.Prefix,0):=by
  unfold Lbg
  rw[Kov (Kza h.ad),h.pf,Kov (Krw h.ad (Krv h.pf).1 (Krv h.pf).2).2.1]
  rfl
 unfold rwP
 rw[Kov hp]
 exact Kpy h s hs
theorem Kqa{x:Kzq}(h:GoodR x)(i:Nat)(s:Str)(hs:s.length≤10000):rwR i x s=some (s++rowT x):=by
 unfold rwR
 rw[Kov (Krw h.ad (Krv h.pf).1 (Krv h.pf).2).1]
 exact Kpy h s hs
theorem Kqb{f:Nat→Kzq→List UInt8→Option (List UInt8)}(hf:∀ i x s,GoodR x→s.length≤10000→f i x s=some (s++rowT x)):∀ (l:List Kzq) (i:Nat) (s:Str),(∀ x∈l,GoodR x)→s.length+141 * l.length≤10000→rangeF f i l s=some (s++textT l)
 | [],i,s,_,_=>by simp[rangeF,textT]
 | x :: l,i,s,h,hs=>by
  have hs':s.length+141 * (l.length+1)≤10000:=hs
  have hx:=h x (by simp)
  have h1:=hf i x s hx (by omega)
  have h2:=hx.len
  have h3:=Kqb hf l (i+1) (s++rowT x) (fun y hy=>h y (by simp[hy])) (by simp;omega)
  simp only[rangeF,h1,bi_some]
  rw[h3]
  simp[textT]
theorem Kqc:∀ l:List Kzq,(∀ x∈l,GoodR x)→(textT l).length≤141 * l.length
 | [],_=>by simp[textT]
 | x :: l,h=>by
  have h1:=(h x (by simp)).len
  have h2:=Kqc l fun y hy=>h y (by simp[hy])
  have e:textT (x :: l)=rowT x++textT l:=by simp[textT]
  rw[e,List.length_append,List.length_cons]
  omega
theorem Kqd{l:List Kzq}(h:okR l):okT l:=⟨fun x hx=>⟨(h.1 x hx).1,by
 have:=(h.1 x hx).2
 simp only[nodeT,List.mem_cons,List.not_mem_nil,or_false] at this
 rcases this with h | h | h | h | h<;>rw[h]<;>decide⟩,by have:=h.2;omega⟩
theorem Kqe(l:List Kzq):Lbj 4000 l=bi (Lbb 4000 l) fun y1=>bif (y1:Int) != 0 then(some ([],y1)) else(bi (rangeF rwP 0 l ([]:Str)) fun q8=>bi (Lbi q8) fun y32=>bif decide ((y32:Int)>200000) then(some ([],2)) else(bi (Kjm q8) fun y36=>some (y36,0))):=rfl
theorem Kqf(l:List Kzq):Lcb 4000 l=bi (rangeF rwR 0 l ([]:Str)) fun q4=>bi (Kjm q4) fun y28=>some y28:=rfl
theorem Kqg(l:List Kzq)(h:okR l):∃ e,Lbu 4000 l=some e∧((e≠0∧Lbj 4000 l=some ([],e))∨(e=0∧Lbj 4000 l=some (textT l,0)∧Lcb 4000 l=some (textT l)∧(textT l).length≤2679)):=by
 obtain⟨e,c1,c2,c3⟩:=Lhu l (Kqd h)
 refine⟨e,c2,?_⟩
 rw[Kqe,Kov c1]
 by_cases he:e=0
 ·have hg:∀ x∈l,GoodR x:=fun x hx=>by
   obtain⟨a,b,c,d⟩:=(c3 he).2 x hx
   exact⟨(h.1 x hx).1,a,b,c,d⟩
  have hl:=h.2
  have ht:=Kqc l hg
  have r1:=Kqb (f:=rwP) (fun i x s hx hs=>Kpz hx i s hs) l 0 [] hg (by simp;omega)
  have r2:=Kqb (f:=rwR) (fun i x s hx hs=>Kqa hx i s hs) l 0 [] hg (by simp;omega)
  rw[List.nil_append] at r1 r2
  refine .inr ⟨he,?_,?_,by omega⟩
  ·rw[show((e != 0):Bool)=false from by rw[he];rfl,cond_false,Kov r1]
   show(bif decide (((textT l).length:Int)>200000) then _ else _)=_
   rw[dF (by omega)]
   rfl
  rw[Kqf,Kov r2]
  rfl
 refine .inl ⟨he,?_⟩
 rw[show((e != 0):Bool)=true from bne_iff_ne.2 he]
 rfl
theorem Lhw(l:List Int)(hl:l.length≤9223372036854775807)(a:Int)(h0:0≤a)(h1:a<4611686018427200000):∃ t a',Lcd 4000 ⟨l,a⟩=some (t,⟨l,a'⟩)∧t.length≤3900:=by
 obtain⟨x,a1,hx,a2,a3,hd⟩:=Lis l hl a h0 (by omega)
 obtain⟨e,e1,e2⟩:=Kqg x hx
 unfold Lcd
 rw[Kov hd]
 simp only[]
 rw[Kov e1]
 have hq:∃ t:Str,(bif (e:Int)==0 then(bi (Lcb 4000 x) fun y8=>some y8) else(some [48,46,48,46,48,46,48,47,48,32,110,97,32,53,10]))=some t∧t.length≤2679:=by
  rcases e2 with⟨he,_⟩ | ⟨he,_,h3,h4⟩
  ·rw[show((e==0):Bool)=false from beq_eq_false_iff_ne.2 he]
   exact⟨_,rfl,by decide⟩
  rw[show((e==0):Bool)=true from beq_iff_eq.2 he,h3]
  exact⟨_,rfl,h4⟩
 obtain⟨t,t1,t2⟩:=hq
 rw[Kov t1]
 obtain⟨n,n1,n2⟩:=Kvz l a1 [0,0,1,2] hl (by omega) (by omega) (by simp) (by simp)
 rw[Kov n2]
 simp only[]
 have hn:0≤n∧n≤2:=by
  simp only[List.mem_cons,List.not_mem_nil,or_false] at n1
  omega
 rw[dT (show n≤9223372036854775807 by omega),gd_true]
 obtain⟨r,r1,r2,r3,r4,r5⟩:=Kwg (f:=fun i13 (s14:Kzn×Str)=>bi (Lcc s14.1 s14.2 [32,10,48,46,47,57,110,97]) fun y25=>some (y25.2,y25.1)) (n:=n) (s:=((⟨l,a1+1⟩:Kzn),t))
  (fun i s=>s.1.L=l∧a1+1≤s.1.v_at∧s.1.v_at≤a1+1+3 * i∧s.2.length≤2679+100 * i) ⟨rfl,Int.le_refl _,by simp,by simpa using t2⟩ (by
   rintro i ⟨⟨l',b⟩,u⟩ hi ⟨g1,g2,g3,g4⟩
   dsimp only at g1 g2 g3 g4 ⊢
   subst g1
   obtain⟨z,b',z1,z2,z3,z4⟩:=Lhv l' b u [32,10,48,46,47,57,110,97] hl (by omega) (by omega) (by omega) (by decide)
   exact⟨_,by rw[Kov z4],rfl,by show a1+1≤b';omega,by show b'≤_;push_cast;omega,by show z.length≤_;omega⟩)
 rw[Kov r1]
 obtain⟨⟨l',b⟩,u⟩:=r
 dsimp only at r2 r5 ⊢
 subst r2
 exact⟨u,b,rfl,by omega⟩
theorem Lhx(l:List Kzq):Ldb l l=some true:=by
 unfold Ldb
 have:((l.length:Int) != (l.length:Int))=false:=by simp
 rw[this]
 simp only[cond_false]
 rw[Kwc (fun _=>true) false l 0 (fun j x hx=>by
  rw[Nat.zero_add,getZ_cast,hx]
  simp only[bi_some,beq_self_eq_true,Bool.and_true,Bool.not_true,cond_false,if_true])]
 simp[goI]
theorem RouterTexts_true(l:List Int)(hl:l.length≤9223372036854775807):Ldk 4000 l=some true:=by
 obtain⟨x,a1,hx,a2,a3,hd⟩:=Lis l hl 0 (by decide) (by decide)
 obtain⟨e,e1,e2⟩:=Kqg x hx
 obtain⟨t,b,t1,t2⟩:=Lhw l hl a1 (by omega) (by omega)
 obtain⟨r,er,j,r1,r2⟩:=Kqq t t2
 have tail:(bi (Lcd 4000 ⟨l,a1⟩) fun y19=>bi (Lcq 4000 y19.1) fun y21=>bi (Lda 4000 y19.1) fun y23=>bi (bif (((y21.2.2:Int)==y23.2.2)&&((y21.2.1:Int)==y23.2.1)) then(bi (Ldb y21.1 y23.1) fun y28=>some y28) else(some false)) fun q25=>bi (bif q25 then(bi (Ldj 4000) fun y34=>some y34) else(some false)) fun q31=>some q31)=some true:=by
  rw[Kov t1]
  simp only[]
  rw[Kov r1,Kov r2]
  simp only[beq_self_eq_true,Bool.and_true,cond_true]
  rw[Lhx,Ksc]
  rfl
 unfold Ldk
 rw[Kov hd]
 simp only[]
 rcases e2 with⟨he,h1⟩ | ⟨he,h1,h2,h3⟩
 ·rw[Kov h1,Kov e1]
  simp only[]
  rw[show((e != e):Bool)=false from by simp,cond_false,show((e==0):Bool)=false from beq_eq_false_iff_ne.2 he,cond_false,bi_some,bi_some]
  rw[show((([]:Str)==[]):Bool)=true from rfl,Bool.not_true,Bool.and_false,Bool.or_false,cond_false]
  exact tail
 subst he
 rw[Kov h1,Kov e1]
 simp only[]
 rw[show(((0:Int) != 0):Bool)=false from rfl,cond_false,show(((0:Int)==0):Bool)=true from rfl,cond_true,h2,bi_some,bi_some,bi_some]
 rw[show((textT x==textT x):Bool)=true from beq_self_eq_true _,Bool.not_true,Bool.false_and,Bool.or_false,cond_false]
 exact tail
end Go.Gk
