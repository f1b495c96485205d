import Derived.Test.YtfnjahjbpaoepaaGreatDoorIBase
set_option linter.all false
set_option maxRecDepth 100000
namespace Go.Gk
theorem inT{x:Int}{xs:List Int}(p:Int→Bool)(h:xs.all p=true)(hx:x∈xs):p x=true:=lAe.1 h x hx
theorem Krf(x:Int):0≤IntKind.u64.wrap x:=Int.emod_nonneg _ (by decide)
theorem Krg(x:Int):IntKind.u64.wrap x<18446744073709551616:=Int.emod_lt_of_pos _ (by decide)
def u64B(x:Int):Bool:=decide (0≤x∧x<18446744073709551616)
theorem Lhz(l:List Int)(hl:l.length≤9223372036854775807)(a:Int)(h0:0≤a)(h1:a<4611686018427380000):Dr l a 3 (Kyl ⟨l,a⟩) AOk:=by
 unfold Kyl Dr
 obtain⟨r,r0,r1,e⟩:=Kwo l a 6 hl h0 (by omega) (by decide) (by decide)
 rw[e]
 simp only[bi_some]
 cases (r==0) with
 | true=>
  obtain⟨r2,s0,s1,e2⟩:=Kwo l (a+1) 5 hl (by omega) (by omega) (by decide) (by decide)
  obtain⟨x,hx,e3⟩:=Kwq ([0,18230571291595767808,2306139568115548160,9223372036854775808,18446744073709551615]:List Int) s0 (by simpa using s1)
  obtain⟨r3,t0,t1,e4⟩:=Kwo l (a+1+1) 5 hl (by omega) (by omega) (by decide) (by decide)
  obtain⟨y,hy,e5⟩:=Kwq ([0,1,2,4294967296,18446744073709551615]:List Int) t0 (by simpa using t1)
  simp only[cond_true,e2,e3,e4,e5,bi_some]
  have k1:0≤x∧x<18446744073709551616:=of_decide_eq_true (inT u64B (by decide) hx)
  have k2:0≤y∧y<18446744073709551616:=of_decide_eq_true (inT u64B (by decide) hy)
  refine⟨_,_,⟨k1.1,k1.2,k2.1,k2.2⟩,?_,?_,rfl⟩;omega;omega
 | false=>
  simp only[cond_false]
  cases (r==1) with
  | true=>
   obtain⟨r3,t0,t1,e4⟩:=Kwo l (a+1) 5 hl (by omega) (by omega) (by decide) (by decide)
   obtain⟨y,hy,e5⟩:=Kwq ([0,1,4294967295,2130706433,3232235521]:List Int) t0 (by simpa using t1)
   simp only[cond_true,e4,e5,bi_some]
   have k2:0≤y∧y<18446744073709551616:=of_decide_eq_true (inT u64B (by decide) hy)
   refine⟨_,_,⟨Int.le_refl _,(by decide:(0:Int)<18446744073709551616),k2.1,k2.2⟩,?_,?_,rfl⟩;omega;omega
  | false=>
   simp only[cond_false]
   cases (r==2) with
   | true=>
    obtain⟨r3,t0,t1,e4⟩:=Kta l (a+1) 0 16777216 hl (by omega) (by omega) (by decide) (by decide) (by decide)
    simp only[cond_true,e4,bi_some]
    have hn:=Krf (IntKind.u64.wrap r3 * 251)
    generalize IntKind.u64.wrap (IntKind.u64.wrap r3 * 251)=v at hn
    unfold remZ
    rw[dF (show ¬ (4294967296:Int)=0 by decide)]
    simp only[cond_false,bi_some]
    have k:=Int.tmod_eq_emod_of_nonneg (b:=4294967296) hn
    have k1:0≤v.tmod 4294967296∧v.tmod 4294967296<18446744073709551616:=by rw[k];omega
    refine⟨_,_,⟨Int.le_refl _,(by decide:(0:Int)<18446744073709551616),k1.1,k1.2⟩,?_,?_,rfl⟩;omega;omega
   | false=>
    obtain⟨r3,t0,t1,e4⟩:=Kta l (a+1) 0 20 hl (by omega) (by omega) (by decide) (by decide) (by decide)
    simp only[cond_false,e4,bi_some]
    refine⟨_,_,⟨Int.le_refl _,(by decide:(0:Int)<18446744073709551616),Krf _,Krg _⟩,?_,?_,rfl⟩;omega;omega
theorem rawD(l:List Int)(hl:l.length≤9223372036854775807)(a:Int)(h0:0≤a)(h1:a<4611686018427372000):Dr l a 10 (Kym ⟨l,a⟩) AOk:=by
 unfold Kym Dr
 obtain⟨x,a1,hx,c1,c2,e⟩:=Lhz l hl a h0 (by omega)
 obtain⟨f,hf⟩:=Kwp l a1 15 hl (by omega) (by omega) (by decide) (by decide)
 rw[e]
 simp only[bi_some]
 rw[hf]
 simp only[bi_some]
 cases f with
 | false=>simp only[cond_false];refine⟨_,_,hx,?_,?_,rfl⟩;omega;omega
 | true=>
  obtain⟨r2,s0,s1,e2⟩:=Kwo l (a1+1) 2 hl (by omega) (by omega) (by decide) (by decide)
  obtain⟨r3,t0,t1,e4⟩:=Kwo l (a1+1+1) 3 hl (by omega) (by omega) (by decide) (by decide)
  obtain⟨y,hy,e5⟩:=Kwq ([4294967296,5,1099511627776]:List Int) t0 (by simpa using t1)
  simp only[cond_true,e2,e4,e5,bi_some]
  have k2:0≤y∧y<18446744073709551616:=of_decide_eq_true (inT u64B (by decide) hy)
  refine⟨_,_,⟨Krf _,Krg _,k2.1,k2.2⟩,?_,?_,rfl⟩;omega;omega
end Go.Gk
