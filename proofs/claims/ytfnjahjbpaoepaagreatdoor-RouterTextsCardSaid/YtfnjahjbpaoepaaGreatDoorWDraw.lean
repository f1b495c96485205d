import Derived.Test.YtfnjahjbpaoepaaGreatDoorWPref
set_option linter.all false
set_option maxRecDepth 100000
namespace Go.Gk
theorem inT{x:Int}{xs:List Int}(p:Int→Bool)(h:xs.all p=true)(hx:x∈xs):p x=true:=lAe.1 h x hx
theorem Kyl(x:Int):0≤IntKind.u64.wrap x:=Int.emod_nonneg _ (by decide)
theorem Kym(x:Int):IntKind.u64.wrap x<18446744073709551616:=Int.emod_lt_of_pos _ (by decide)
def u64B(x:Int):Bool:=decide (0≤x∧x<18446744073709551616)
theorem Kyn(l:List Int)(a:Int)(xs:List Str)(hl:l.length≤9223372036854775807)(h0:0≤a)(h1:a<4611686018427387904)(hn:1≤xs.length)(hn2:xs.length≤1000) :
  ∃ x,x∈xs∧Laj ⟨l,a⟩ xs=some (x,⟨l,a+1⟩):=by
 obtain⟨r,r0,r1,h⟩:=Kvw l a xs.length hl h0 h1 (by omega) (by omega)
 obtain⟨x,hx,e⟩:=Kvy xs r0 r1
 exact⟨x,hx,by unfold Laj;rw[h];simp only[bi_some,e]⟩
theorem Lip(l:List Int)(hl:l.length≤9223372036854775807)(a:Int)(h0:0≤a)(h1:a<4611686018427360000):Dr l a 3 (Kzz ⟨l,a⟩) AOk:=by
 unfold Kzz Dr
 obtain⟨r,r0,r1,e⟩:=Kvw l a 6 hl h0 (by omega) (by decide) (by decide)
 rw[e]
 simp only[bi_some]
 cases (r==0) with
 | true=>
  obtain⟨r2,s0,s1,e2⟩:=Kvw l (a+1) 5 hl (by omega) (by omega) (by decide) (by decide)
  obtain⟨x,hx,e3⟩:=Kvy ([0,18230571291595767808,2306139568115548160,9223372036854775808,18446744073709551615]:List Int) s0 (by simpa using s1)
  obtain⟨r3,t0,t1,e4⟩:=Kvw l (a+1+1) 5 hl (by omega) (by omega) (by decide) (by decide)
  obtain⟨y,hy,e5⟩:=Kvy ([0,1,2,4294967296,18446744073709551615]:List Int) t0 (by simpa using t1)
  simp only[cond_true,e2,e3,e4,e5,bi_some]
  have k1:0≤x∧x<18446744073709551616:=of_decide_eq_true (inT u64B (by decide) hx)
  have k2:0≤y∧y<18446744073709551616:=of_decide_eq_true (inT u64B (by decide) hy)
  refine⟨_,_,⟨k1.1,k1.2,k2.1,k2.2⟩,?_,?_,rfl⟩;omega;omega
 | false=>
  simp only[cond_false]
  cases (r==1) with
  | true=>
   obtain⟨r3,t0,t1,e4⟩:=Kvw l (a+1) 5 hl (by omega) (by omega) (by decide) (by decide)
   obtain⟨y,hy,e5⟩:=Kvy ([0,1,4294967295,2130706433,3232235521]:List Int) t0 (by simpa using t1)
   simp only[cond_true,e4,e5,bi_some]
   have k2:0≤y∧y<18446744073709551616:=of_decide_eq_true (inT u64B (by decide) hy)
   refine⟨_,_,⟨Int.le_refl _,(by decide:(0:Int)<18446744073709551616),k2.1,k2.2⟩,?_,?_,rfl⟩;omega;omega
  | false=>
   simp only[cond_false]
   cases (r==2) with
   | true=>
    obtain⟨r3,t0,t1,e4⟩:=Kwb l (a+1) 0 16777216 hl (by omega) (by omega) (by decide) (by decide) (by decide)
    simp only[cond_true,e4,bi_some]
    have hn:=Kyl (IntKind.u64.wrap r3 * 251)
    generalize IntKind.u64.wrap (IntKind.u64.wrap r3 * 251)=v at hn
    unfold remZ
    rw[dF (show ¬ (4294967296:Int)=0 by decide)]
    simp only[cond_false,bi_some]
    have k:=Int.tmod_eq_emod_of_nonneg (b:=4294967296) hn
    have k1:0≤v.tmod 4294967296∧v.tmod 4294967296<18446744073709551616:=by rw[k];omega
    refine⟨_,_,⟨Int.le_refl _,(by decide:(0:Int)<18446744073709551616),k1.1,k1.2⟩,?_,?_,rfl⟩;omega;omega
   | false=>
    obtain⟨r3,t0,t1,e4⟩:=Kwb l (a+1) 0 20 hl (by omega) (by omega) (by decide) (by decide) (by decide)
    simp only[cond_false,e4,bi_some]
    refine⟨_,_,⟨Int.le_refl _,(by decide:(0:Int)<18446744073709551616),Kyl _,Kym _⟩,?_,?_,rfl⟩;omega;omega
theorem rawD(l:List Int)(hl:l.length≤9223372036854775807)(a:Int)(h0:0≤a)(h1:a<4611686018427350000):Dr l a 10 (Lag ⟨l,a⟩) AOk:=by
 unfold Lag Dr
 obtain⟨x,a1,hx,c1,c2,e⟩:=Lip l hl a h0 (by omega)
 obtain⟨f,hf⟩:=Kvx l a1 15 hl (by omega) (by omega) (by decide) (by decide)
 rw[e]
 simp only[bi_some]
 rw[hf]
 simp only[bi_some]
 cases f with
 | false=>simp only[cond_false];refine⟨_,_,hx,?_,?_,rfl⟩;omega;omega
 | true=>
  obtain⟨r2,s0,s1,e2⟩:=Kvw l (a1+1) 2 hl (by omega) (by omega) (by decide) (by decide)
  obtain⟨r3,t0,t1,e4⟩:=Kvw l (a1+1+1) 3 hl (by omega) (by omega) (by decide) (by decide)
  obtain⟨y,hy,e5⟩:=Kvy ([4294967296,5,1099511627776]:List Int) t0 (by simpa using t1)
  simp only[cond_true,e2,e4,e5,bi_some]
  have k2:0≤y∧y<18446744073709551616:=of_decide_eq_true (inT u64B (by decide) hy)
  refine⟨_,_,⟨Kyl _,Kym _,k2.1,k2.2⟩,?_,?_,rfl⟩;omega;omega
theorem Kyo{a:Kzo}(h:AOk a)(k:Nat)(hk:10≤k)(bits:Int)(h0:0≤bits)(h1:bits≤lnN a):Lae k a bits=some ⟨adr a.Six (cl (nm a) ((lnN a:Int) - bits).toNat),bits⟩:=by
 unfold Lae
 have e:=Kwz h k (by omega) bits h0 (by rw[Kyd];exact h1)
 rw[Kyd] at e
 rw[e,bi_some,Kyh k (by omega) (Nat.lt_of_le_of_lt (Kyg _ _) (Kwo h)),bi_some]
theorem Liq(l:List Int)(hl:l.length≤9223372036854775807)(a:Int)(h0:0≤a)(h1:a<4611686018427350000):Dr l a 6 (Laf 4000 ⟨l,a⟩) fun p=>AOk p.Addr:=by
 unfold Laf Dr
 obtain⟨x,a1,hx,c1,c2,e⟩:=Lip l hl a h0 (by omega)
 obtain⟨b,hb,e2⟩:=Kvz l a1 [0,8,24,27,28,29,30,31,32] hl (by omega) (by omega) (by simp) (by simp)
 have kb:0≤b∧b≤32:=of_decide_eq_true (inT (fun b=>decide (0≤b∧b≤32)) (by decide) hb)
 rw[e];simp only[bi_some]
 rw[e2];simp only[bi_some]
 have hok:∀ m,AOk (adr x.Six (cl (nm x) m)):=fun m=>Kxy _ (Nat.lt_of_le_of_lt (Kyg _ _) (Kwo hx))
 cases hs:x.Six with
 | false=>
  simp only[cond_false,bi_some]
  rw[Kyo hx 4000 (by decide) b kb.1 (by unfold lnN;rw[hs];exact kb.2)]
  simp only[bi_some]
  refine⟨_,_,hok _,?_,?_,rfl⟩;omega;omega
 | true=>
  obtain⟨c,hc,e3⟩:=Kvz l (a1+1) [0,8,32,48,63,64,65,96,127,128] hl (by omega) (by omega) (by simp) (by simp)
  have kc:0≤c∧c≤128:=of_decide_eq_true (inT (fun b=>decide (0≤b∧b≤128)) (by decide) hc)
  simp only[cond_true,e3,bi_some]
  rw[Kyo hx 4000 (by decide) c kc.1 (by unfold lnN;rw[hs];exact kc.2)]
  simp only[bi_some]
  refine⟨_,_,hok _,?_,?_,rfl⟩;omega;omega
theorem Lir(l:List Int)(hl:l.length≤9223372036854775807)(a:Int)(h0:0≤a)(h1:a<4611686018427340000):Dr l a 25 (Lai 4000 ⟨l,a⟩) fun p=>AOk p.Addr:=by
 unfold Lai Dr
 obtain⟨x,a1,hx,c1,c2,e⟩:=Liq l hl a h0 (by omega)
 obtain⟨f,hf⟩:=Kvx l a1 15 hl (by omega) (by omega) (by decide) (by decide)
 rw[e];simp only[bi_some]
 rw[hf];simp only[bi_some]
 cases f with
 | false=>simp only[cond_false,bi_some];refine⟨_,_,hx,?_,?_,rfl⟩;omega;omega
 | true=>
  obtain⟨y,a2,hy,c3,c4,e2⟩:=rawD l hl (a1+1) (by omega) (by omega)
  obtain⟨z,a3,_,c5,c6,e3⟩:=oddD l a2 0 33 hl (by omega) (by omega) (by decide) (by decide) (by decide)
  simp only[cond_true,e2,e3,bi_some]
  refine⟨_,_,hy,?_,?_,rfl⟩;omega;omega
def nodeT:List Str:=[[110,97],[110,98],[110,99],[110,100],[]]
def okR(l:List Kzq):Prop:=(∀ x∈l,AOk x.Prefix.Addr∧x.Node∈nodeT)∧l.length≤19
theorem inN{x:Str}{xs:List Str}(h:xs.all (fun y=>decide (y∈nodeT))=true)(hx:x∈xs):x∈nodeT:=by
 have:=lAe.1 h x hx
 simpa using this
theorem Lis(l:List Int)(hl:l.length≤9223372036854775807)(a:Int)(h0:0≤a)(h1:a<4611686018427330000):Dr l a 100 (Lak 4000 ⟨l,a⟩) okR:=by
 unfold Lak Dr
 obtain⟨⟨s,out⟩,hr,a1,b1,b2,b3,b4,b5⟩:=Kwf (f:=fun i1 (x3:Kzp) (s2:Kzn×(List Kzq))=>bi (rangeF (σ:=Kzn×(List Kzq)) (fun i12 x14 s13=>bi (Kzw s13.1 2) fun y23=>bif y23.1 then(bi (Kzx y23.2 [0,5,5,9]) fun y26=>bi (apd s13.2 [(⟨x3,x14,y26.1⟩:Kzq)]) fun y28=>some (y26.2,y28)) else(some (y23.2,s13.2))) 0 [[110,97],[110,98],[110,99],[110,100]] (s2.1,s2.2)) fun q15=>some (q15.1,q15.2))
  [(⟨(⟨false,0,0⟩:Kzo),0⟩:Kzp),(⟨(⟨false,0,167772160⟩:Kzo),8⟩:Kzp),(⟨(⟨false,0,167772160⟩:Kzo),16⟩:Kzp),(⟨(⟨true,0,0⟩:Kzo),0⟩:Kzp)]
  (fun i s=>∃ a',s.1=(⟨l,a'⟩:Kzn)∧a≤a'∧a'≤a+8 * i∧(∀ x∈s.2,AOk x.Prefix.Addr∧x.Node∈nodeT)∧s.2.length≤4 * i) (by
   rintro i p ⟨s,out⟩ hp ⟨a',e1,e2,e3,e4,e5⟩
   simp only at e1 e2 e3 e4 e5 ⊢
   subst e1
   have hi:i<4:=by have:=(gEs.1 hp).1;simpa using this
   have hpa:AOk p.Addr:=by
    have:=mOg hp
    simp only[List.mem_cons,List.not_mem_nil,or_false] at this
    rcases this with rfl | rfl | rfl | rfl<;>exact⟨by decide,by decide,by decide,by decide⟩
   obtain⟨r,hr,a2,c1,c2,c3,c4,c5⟩:=Kwf (f:=fun i12 (x14:Str) (s13:Kzn×(List Kzq))=>bi (Kzw s13.1 2) fun y23=>bif y23.1 then(bi (Kzx y23.2 [0,5,5,9]) fun y26=>bi (apd s13.2 [(⟨p,x14,y26.1⟩:Kzq)]) fun y28=>some (y26.2,y28)) else(some (y23.2,s13.2)))
    [[110,97],[110,98],[110,99],[110,100]] (fun j s=>∃ a2,s.1=(⟨l,a2⟩:Kzn)∧a'≤a2∧a2≤a'+2 * j∧(∀ x∈s.2,AOk x.Prefix.Addr∧x.Node∈nodeT)∧s.2.length≤4 * i+j) (by
     rintro j x ⟨s,out2⟩ hx ⟨a2,d1,d2,d3,d4,d5⟩
     simp only at d1 d2 d3 d4 d5 ⊢
     subst d1
     have hj:j<4:=by have:=(gEs.1 hx).1;simpa using this
     obtain⟨b,hb⟩:=Kvx l a2 2 hl (by omega) (by omega) (by decide) (by decide)
     rw[hb]
     simp only[bi_some]
     cases b with
     | false=>exact⟨_,rfl,a2+1,rfl,by omega,by omega,d4,by simp only;omega⟩
     | true=>
      obtain⟨z,_,hz⟩:=Kvz l (a2+1) [0,5,5,9] hl (by omega) (by omega) (by simp) (by simp)
      simp only[cond_true,hz,bi_some]
      rw[Kwa (by simp;omega)]
      refine⟨_,rfl,a2+1+1,rfl,by omega,by omega,fun w hw=>?_,by simp;omega⟩
      rcases List.mem_append.1 hw with hw | hw
      ·exact d4 w hw
      simp only[List.mem_singleton] at hw
      subst hw
      exact⟨hpa,inN (by decide) (mOg hx)⟩) [[110,97],[110,98],[110,99],[110,100]] 0 (⟨l,a'⟩,out) rfl ⟨a',rfl,by omega,by omega,e4,by omega⟩
   rw[hr]
   simp only[List.length_cons,List.length_nil] at c3 c5
   exact⟨_,rfl,a2,c1,by omega,by omega,c4,by simp only;omega⟩) [(⟨(⟨false,0,0⟩:Kzo),0⟩:Kzp),(⟨(⟨false,0,167772160⟩:Kzo),8⟩:Kzp),(⟨(⟨false,0,167772160⟩:Kzo),16⟩:Kzp),(⟨(⟨true,0,0⟩:Kzo),0⟩:Kzp)] 0 (⟨l,a⟩,[]) rfl ⟨a,rfl,by omega,by omega,(fun x hx=>by cases hx),by simp⟩
 have b1':s=(⟨l,a1⟩:Kzn):=b1
 subst b1'
 have b4':∀ x∈out,AOk x.Prefix.Addr∧x.Node∈nodeT:=b4
 have b5':out.length≤16:=by simpa using b5
 have b3':a1≤a+32:=by have h:=b3;simp at h;omega
 rw[hr]
 simp only[bi_some]
 obtain⟨f,hf⟩:=Kvx l a1 15 hl (by omega) (by omega) (by decide) (by decide)
 rw[hf]
 simp only[bi_some]
 cases f with
 | false=>simp only[cond_false,bi_some];refine⟨_,_,⟨b4',by omega⟩,?_,?_,rfl⟩;omega;omega
 | true=>
  obtain⟨p,a2,hp,c1,c2,e1⟩:=Lir l hl (a1+1) (by omega) (by omega)
  obtain⟨n,hn,e2⟩:=Kyn l a2 [[],[110,97]] hl (by omega) (by omega) (by simp) (by simp)
  obtain⟨w,a3,_,c3,c4,e3⟩:=oddD l (a2+1) 0 1000 hl (by omega) (by omega) (by decide) (by decide) (by decide)
  simp only[cond_true,e1,e2,e3,bi_some]
  rw[Kwa (by simp;omega)]
  simp only[bi_some]
  refine⟨_,_,⟨fun x hx=>?_,by simp;omega⟩,?_,?_,rfl⟩
  ·rcases List.mem_append.1 hx with hx | hx
   ·exact b4' x hx
   simp only[List.mem_singleton] at hx
   subst hx
   exact⟨hp,inN (by decide) hn⟩
  ·omega
  omega
end Go.Gk
