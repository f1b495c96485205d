import Derived.Test.YtfnjahjbpaoepaaGreatDoorJZone
set_option linter.all false
set_option maxRecDepth 100000
namespace Go.Gk
theorem Krh(n:Int):(runeS n).length≤4:=by
 unfold runeS Utf8.encode
 simp only
 repeat' split
 all_goals simp
theorem Lic(l:List Int)(a:Int)(t w:Str)(hl:l.length≤9223372036854775807)(h0:0≤a)(h1:a<4611686018427300000)(ht:t.length≤35000)(hw:1≤w.length∧w.length≤100) :
  ∃ r a',r.length≤t.length+100∧a≤a'∧a'≤a+3∧Laz ⟨l,a⟩ t w=some (r,⟨l,a'⟩):=by
 unfold Laz
 cases he:((t==[])||(w==[])) with
 | true=>exact⟨w,a,by omega,by omega,by omega,rfl⟩
 | false=>
  rw[Bool.or_eq_false_iff] at he
  have htn:t≠[]:=by simpa using he.1
  have htl:=List.length_pos_iff.2 htn
  obtain⟨i,i0,i1,hi⟩:=Kwo l a (t.length:Int) hl h0 (by omega) (by omega) (by omega)
  obtain⟨j,j0,j1,hj⟩:=Kwo l (a+1) (w.length:Int) hl (by omega) (by omega) (by omega) (by omega)
  obtain⟨c,_,hc⟩:=Kwq w j0 j1
  obtain⟨k,k0,k1,hk⟩:=Kwo l (a+1+1) 3 hl (by omega) (by omega) (by decide) (by decide)
  have hsub:∀ lo hi:Int,0≤lo→lo≤hi→hi≤(t.length:Int)→∃ z:Str,subZ t lo hi=some z∧z.length≤(hi - lo).toNat:=fun lo hi h1 h2 h3=>by
   unfold subZ
   rw[dT h1,dT h2,dT h3]
   refine⟨_,rfl,?_⟩
   simp;omega
  have hw1:wi (i+1)=i+1:=Kwl (by omega) (by omega)
  obtain⟨z1,s1,n1⟩:=hsub 0 i (by omega) i0 (by omega)
  obtain⟨z2,s2,n2⟩:=hsub (i+1) (t.length:Int) (by omega) (by omega) (by omega)
  obtain⟨z3,s3,n3⟩:=hsub i (t.length:Int) (by omega) (by omega) (by omega)
  simp only[cond_false,hi,hj,hc,hk,bi_some,hw1,s1,s2,s3]
  have hr:=Krh (IntKind.i32.wrap (c.toNat:Int))
  generalize runeS (IntKind.i32.wrap (c.toNat:Int))=q at hr
  cases (k==0) with
  | true=>
   rw[cond_true,Kra (by omega),bi_some,Kra (by rw[List.length_append];omega),bi_some]
   exact⟨_,a+1+1+1,by simp only[List.length_append];omega,by omega,by omega,rfl⟩
  | false=>
   cases (k==1) with
   | true=>
    rw[cond_false,cond_true,Kra (by omega),bi_some,Kra (by rw[List.length_append];omega),bi_some]
    exact⟨_,a+1+1+1,by simp only[List.length_append];omega,by omega,by omega,rfl⟩
   | false=>
    rw[cond_false,cond_false,Kra (by omega),bi_some]
    exact⟨_,a+1+1+1,by simp only[List.length_append];omega,by omega,by omega,rfl⟩
theorem Lid(l:List Kyb):Lbz l l=some true:=by
 unfold Lbz
 have:((l.length:Int) != (l.length:Int))=false:=by simp
 rw[this]
 simp only[cond_false]
 rw[Kwu (fun _=>true) false l 0 (fun j x hx=>by
  rw[Nat.zero_add,getZ_cast,hx]
  simp only[bi_some,beq_self_eq_true,Bool.and_true,Bool.not_true,cond_false,if_true])]
 simp[goI]
theorem Kri{z:Kyc}(h:ZZ.okZone z):okZ z:=by
 obtain⟨h1,h2,h3⟩:=h
 refine⟨by omega,by omega,fun r hr=>?_⟩
 obtain⟨a1,a2,a3,a4⟩:=h3 r hr
 obtain⟨_,_,_,a5,_⟩:=ZZ.Ktb _ a3
 exact⟨by omega,by omega,by omega,a4.h0⟩
theorem Krj{z:Kyc}(h:ZZ.okZone z)(hf:∀ r∈z.Records,Kzn 40000 r=some 0):∀ r∈z.Records,GoodZ r:=by
 intro r hr
 obtain⟨a1,a2,a3,a4⟩:=h.2.2 r hr
 obtain⟨_,_,_,a5,_⟩:=ZZ.Ktb _ a3
 obtain⟨b1,b2,b3,b4⟩:=rec0 ((Kri h).2.2 r hr) (hf r hr)
 have hk:r.Kind=1∨r.Kind=5∨r.Kind=12∨r.Kind=16∨r.Kind=28:=by simpa [ZZ.kindB] using b1
 exact⟨a4,hk,fun h=>b2 (by rw[Kss];exact dT h),b3,b4,a1,by omega⟩
def textZ(z:Kyc):Str:=[122,111,110,101,32]++z.Root++[10]++z.Records.flatMap rowZ
theorem Krk(z:Kyc):Lab 40000 z=bi (Kzt 40000 z) fun y1=>bif (y1:Int) != 0 then(some ([],y1)) else(bi (catZ [122,111,110,101,32] z.Root) fun y5=>bi (catZ y5 [10]) fun y7=>bi (Kzu ([]:Str) y7) fun y9=>bi (rangeF rzP 0 z.Records y9.2) fun q14=>bi (Laa q14) fun y52=>bif decide ((y52:Int)>200000) then(some ([],2)) else(bi (Kjf q14) fun y56=>some (y56,0))):=rfl
theorem Krl(z:Kyc):Law 40000 z=bi (catZ [122,111,110,101,32] z.Root) fun y1=>bi (catZ y1 [10]) fun y3=>bi (Kzu ([]:Str) y3) fun y5=>bi (rangeF rzR 0 z.Records y5.2) fun q10=>bi (Kjf q10) fun y52=>some y52:=rfl
theorem Krm{z:Kyc}(hg:∀ r∈z.Records,GoodZ r)(hl:z.Records.length≤24)(hr:z.Root.length≤300):Law 40000 z=some (textZ z)∧(textZ z).length≤22400∧(Kzt 40000 z=some 0→Lab 40000 z=some (textZ z,0)):=by
 have ht:=Ksw z.Records hg
 have r1:=Ksv (f:=rzP) (fun i x s hx hs=>Kst hx i s hs) z.Records 0 ([122,111,110,101,32]++z.Root++[10]) hg (by simp;omega)
 have r2:=Ksv (f:=rzR) (fun i x s hx hs=>Ksu hx i s hs) z.Records 0 ([122,111,110,101,32]++z.Root++[10]) hg (by simp;omega)
 have hlen:(textZ z).length≤22400:=by unfold textZ;simp only[List.length_append,List.length_cons,List.length_nil];omega
 refine⟨?_,hlen,fun hc=>?_⟩
 ·rw[Krl,Koo (Kra (by simp;omega)),Koo (Kra (by simp;omega)),Koo (Ksq (by simp;omega))]
  simp only[List.nil_append]
  rw[Koo r2]
  rfl
 rw[Krk,Koo hc,show(((0:Int) != 0):Bool)=false from rfl,cond_false,Koo (Kra (by simp;omega)),Koo (Kra (by simp;omega)),Koo (Ksq (by simp;omega))]
 simp only[List.nil_append]
 rw[Koo r1]
 show(bif decide (((textZ z).length:Int)>200000) then _ else _)=_
 rw[dF (by omega)]
 rfl
theorem Krn(z:Kyc)(h:ZZ.okZone z)(hl:z.Records.length≤24):∃ e,Lao z=some e∧((e≠0∧Lab 40000 z=some ([],e))∨(e=0∧Lab 40000 z=some (textZ z,0)∧Law 40000 z=some (textZ z)∧(textZ z).length≤22400)):=by
 obtain⟨e,c1,c2,c3⟩:=Lia z (Kri h)
 refine⟨e,c2,?_⟩
 by_cases he:e=0
 ·obtain⟨g1,g2,g3⟩:=Krm (Krj h (c3 he).2) hl h.1
  rw[he] at c1
  exact .inr ⟨he,g3 c1,g1,g2⟩
 refine .inl ⟨he,?_⟩
 rw[Krk,Koo c1,show((e != 0):Bool)=true from bne_iff_ne.2 he]
 rfl
theorem Lie(l:List Int)(a:Int)(hl:l.length≤9223372036854775807)(h0:0≤a)(h1:a<4611686018427200000) :
  ∃ z a',Lax 40000 ⟨l,a⟩=some (z,⟨l,a'⟩)∧(∃ t,Law 40000 z=some t∧t.length≤22400)∧a≤a'∧a'≤a+20000:=by
 unfold Lax
 generalize hf:(fun (s2:Kxz×Int)=>_)=f
 obtain⟨r,e1,e2⟩:=ZZ.Ksz (f:=f) (fun s=>(∃ b,s.1=⟨l,b⟩∧a≤b∧b≤a+3000 * s.2)∧0≤s.2∧s.2≤6) (fun s=>(7 - s.2).toNat) (fun r=>(∃ b,r=.inl ⟨l,b⟩∧a≤b∧b≤a+20000)∨∃ z b,r=.inr (z,⟨l,b⟩)∧(∃ t,Law 40000 z=some t∧t.length≤22400)∧a≤b∧b≤a+20000) (by
  rintro⟨s,i⟩ ⟨⟨b,rfl,i1,i2⟩,i3,i4⟩
  simp only at i2 i3 i4
  subst hf
  simp only
  by_cases hi:i<6
  ·obtain⟨z,b',hz,hz24,z1,z2,ez⟩:=ZZ.zoneD l b hl (by omega) (by omega)
   obtain⟨e,e2,e3⟩:=Krn z hz hz24
   have hw:wi (i+1)=i+1:=Kwl (by omega) (by omega)
   rw[dT hi]
   simp only[cond_true,ez,bi_some,e2,hw]
   rcases e3 with⟨he,_⟩ | ⟨he,_,g1,g2⟩
   ·rw[show((e==0):Bool)=false from beq_eq_false_iff_ne.2 he]
    exact⟨_,rfl,fun s' e=>(by cases e;exact⟨⟨⟨b',rfl,by omega,by simp only;omega⟩,by simp only;omega,by simp only;omega⟩,by simp only;omega⟩),fun r e=>(by cases e)⟩
   ·rw[show((e==0):Bool)=true from beq_iff_eq.2 he]
    exact⟨_,rfl,fun s' e=>(by cases e),fun r e=>(by cases e;exact .inr ⟨z,b',rfl,⟨_,g1,g2⟩,by omega,by omega⟩)⟩
  ·rw[dF hi]
   exact⟨_,rfl,fun s' e=>(by cases e),fun r e=>(by cases e;exact .inl ⟨b,rfl,by omega,by omega⟩)⟩)
  40000 (⟨l,a⟩,0) ⟨⟨a,rfl,by omega,by simp only;omega⟩,by simp,by simp⟩ (by simp)
 rw[e1]
 rcases e2 with⟨b,rfl,b1,b2⟩ | ⟨z,b,rfl,hz,b1,b2⟩
 ·obtain⟨g1,g2,_⟩:=Krm (z:=⟨[110,101,116,46,120],[]⟩) (fun r hr=>by cases hr) (by simp) (by decide)
  exact⟨_,b,rfl,⟨_,g1,g2⟩,b1,b2⟩
 ·exact⟨z,b,rfl,hz,b1,b2⟩
theorem Lif(l:List Int)(hl:l.length≤9223372036854775807)(a:Int)(h0:0≤a)(h1:a<4611686018427100000):∃ t a',Lba 40000 ⟨l,a⟩=some (t,⟨l,a'⟩)∧t.length≤38000:=by
 obtain⟨z,a1,hd,⟨t,t1,t2⟩,a2,a3⟩:=Lie l a hl h0 (by omega)
 unfold Lba
 rw[Koo hd]
 simp only[]
 rw[Koo t1]
 obtain⟨n,n1,n2⟩:=Kwr l a1 [0,0,1,2] hl (by omega) (by omega) (by simp) (by simp)
 rw[Koo n2]
 simp only[]
 have hn:0≤n∧n≤2:=by
  simp only[List.mem_cons,List.not_mem_nil,or_false] at n1
  omega
 rw[dT (show n≤9223372036854775807 by omega),gd_true]
 obtain⟨r,r1,r2,r3,r4,r5⟩:=Kwz (f:=fun i13 (s14:Kxz×Str)=>bi (Laz s14.1 s14.2 [32,10,46,48,97,57,58,42]) fun y25=>some (y25.2,y25.1)) (n:=n) (s:=((⟨l,a1+1⟩:Kxz),t))
  (fun i s=>s.1.L=l∧a1+1≤s.1.v_at∧s.1.v_at≤a1+1+3 * i∧s.2.length≤22400+100 * i) ⟨rfl,Int.le_refl _,by simp,by simpa using t2⟩ (by
   rintro i ⟨⟨l',b⟩,u⟩ hi ⟨g1,g2,g3,g4⟩
   dsimp only at g1 g2 g3 g4 ⊢
   subst g1
   obtain⟨z,b',z1,z2,z3,z4⟩:=Lic l' b u [32,10,46,48,97,57,58,42] hl (by omega) (by omega) (by omega) (by decide)
   exact⟨_,by rw[Koo z4],rfl,by show a1+1≤b';omega,by show b'≤_;push_cast;omega,by show z.length≤_;omega⟩)
 rw[Koo r1]
 obtain⟨⟨l',b⟩,u⟩:=r
 dsimp only at r2 r3 r4 r5 ⊢
 subst r2
 obtain⟨f,hf⟩:=Kwp l' b 20 hl (by omega) (by omega) (by decide) (by decide)
 rw[Koo hf]
 cases f with
 | true=>exact⟨_,_,rfl,by simp⟩
 | false=>exact⟨u,_,rfl,by omega⟩
theorem Kro:Lcc 40000=some true:=by rfl
theorem Krp(z:Kyc):Lca z z=some true:=by
 unfold Lca
 rw[beq_self_eq_true,cond_true,Lid]
 rfl
theorem ZoneTexts_true(l:List Int)(hl:l.length≤9223372036854775807):Lcd 40000 l=some true:=by
 obtain⟨x,a1,hx,hx24,a2,a3,hd⟩:=ZZ.zoneD l 0 hl (by decide) (by decide)
 obtain⟨e,e1,e2⟩:=Krn x hx hx24
 obtain⟨t,b,t1,t2⟩:=Lif l hl a1 (by omega) (by omega)
 obtain⟨r,er,j,r1,r2⟩:=Ksh t t2
 have tail:(bi (Lba 40000 ⟨l,a1⟩) fun y19=>bi (Lbm 40000 y19.1) fun y21=>bi (Lby 40000 y19.1) fun y23=>bi (bif (((y21.2.2:Int)==y23.2.2)&&((y21.2.1:Int)==y23.2.1)) then(bi (Lca y21.1 y23.1) fun y28=>some y28) else(some false)) fun q25=>bi (bif q25 then(bi (Lcc 40000) fun y34=>some y34) else(some false)) fun q31=>some q31)=some true:=by
  rw[Koo t1]
  simp only[]
  rw[Koo r1,Koo r2]
  simp only[beq_self_eq_true,Bool.and_true,cond_true]
  rw[Krp,Kro]
  rfl
 unfold Lcd
 rw[Koo hd]
 simp only[]
 rcases e2 with⟨he,h1⟩ | ⟨he,h1,h2,h3⟩
 ·rw[Koo h1,Koo e1]
  simp only[]
  rw[show((e != e):Bool)=false from by simp,cond_false,show((e==0):Bool)=false from beq_eq_false_iff_ne.2 he,cond_false,bi_some,bi_some]
  rw[show((([]:Str)==[]):Bool)=true from rfl,Bool.not_true,Bool.and_false,Bool.or_false,cond_false]
  exact tail
 subst he
 rw[Koo h1,Koo e1]
 simp only[]
 rw[show(((0:Int) != 0):Bool)=false from rfl,cond_false,show(((0:Int)==0):Bool)=true from rfl,cond_true,h2,bi_some,bi_some,bi_some]
 rw[show((textZ x==textZ x):Bool)=true from beq_self_eq_true _,Bool.not_true,Bool.false_and,Bool.or_false,cond_false]
 exact tail
end Go.Gk
