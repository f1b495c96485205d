import Derived.Test.YtmecneoeklldeaaGreatDoorTLoop
set_option linter.all false
set_option maxRecDepth 100000
namespace Go.Gk
theorem Ktr{n:Int}(h1 : -9223372036854775808≤n)(h2:n≤9223372036854775807):wi n=n:=w64 ⟨h1,h2⟩
theorem Kts(x n:Int)(hn:1≤n)(hn2:n≤4611686018427387904):∃ r,0≤r∧r<n∧Kuv x n=some r:=by
 have h1:x.tmod n<n:=Int.tmod_lt_of_pos x (by omega)
 have h2 : -n<x.tmod n:=by
  have:=Int.tmod_lt_of_pos (-x) (show 0<n by omega)
  rw[Int.neg_tmod] at this
  omega
 unfold Kuv remZ
 rw[dF (show ¬ n<1 by omega),dF (show ¬ n=0 by omega)]
 simp only[cond_false,bi_some]
 by_cases h:x.tmod n<0
 ·rw[dT h]
  exact⟨x.tmod n+n,by omega,by omega,by simp only[cond_true,bi_some];rw[Ktr (by omega) (by omega)]⟩
 rw[dF h]
 exact⟨x.tmod n,by omega,h1,rfl⟩
theorem Ktt(l:List Int)(a n:Int)(hl:l.length≤9223372036854775807)(h0:0≤a)(h1:a<4611686018427387904)(hn:1≤n)(hn2:n≤4611686018427387904) :
  ∃ r,0≤r∧r<n∧Kuw ⟨l,a⟩ n=some (r,⟨l,a+1⟩):=by
 unfold Kuw
 have hw:wi (a+1)=a+1:=Ktr (by omega) (by omega)
 have hw1:wi (a+1 - 1)=a:=by rw[Ktr (by omega) (by omega)];omega
 simp only[hw,hw1]
 by_cases hne:l.length=0
 ·obtain⟨r,r0,r1,hr⟩:=Kts (wi ((a+1) * 7919)) n hn hn2
  exact⟨r,r0,r1,by simp[hne,hr]⟩
 ·have hk:a.toNat % l.length<l.length:=Nat.mod_lt _ (by omega)
  have hkk:a.tmod (l.length:Int)=((a.toNat % l.length:Nat):Int):=by
   rw[Int.tmod_eq_emod_of_nonneg h0,Int.natCast_emod,Int.toNat_of_nonneg h0]
  have hne':¬ (l.length:Int)=0:=by omega
  obtain⟨r1,_,_,e1⟩:=Kts l[a.toNat % l.length] 1073741824 (by decide) (by decide)
  obtain⟨r,r0,r1,hr⟩:=Kts (wi (r1+wi (wi (a.tdiv (l.length:Int)) * wi (7919+((a.toNat % l.length:Nat):Int))))) n hn hn2
  refine⟨r,r0,r1,?_⟩
  have:((l.length:Int)==0)=false:=by simpa using hne'
  rw[this]
  simp only[cond_false,remZ,divZ,decide_eq_false hne',bi_some,hkk,getZ_cast,List.getElem?_eq_getElem hk,e1]
  rw[show IntKind.i64.wrap (a.tdiv (l.length:Int))=wi (a.tdiv (l.length:Int)) from rfl,hr]
  rfl
theorem Ktu(l:List Int)(a n:Int)(hl:l.length≤9223372036854775807)(h0:0≤a)(h1:a<4611686018427387904)(hn:1≤n)(hn2:n≤4611686018427387904) :
  ∃ b,Kuy ⟨l,a⟩ n=some (b,⟨l,a+1⟩):=by
 obtain⟨r,_,_,h⟩:=Ktt l a n hl h0 h1 hn hn2
 exact⟨_,by unfold Kuy;rw[h];rfl⟩
theorem Ktv{α:Type}(xs:List α){r:Int}(h0:0≤r)(h1:r<xs.length):∃ x,x∈xs∧getZ xs r=some x:=by
 obtain⟨k,rfl⟩:=Int.eq_ofNat_of_zero_le h0
 exact⟨xs[k],List.getElem_mem _,by rw[getZ_cast,gGe (by omega)]⟩
theorem Ktw(l:List Int)(a:Int)(xs:List Int)(hl:l.length≤9223372036854775807)(h0:0≤a)(h1:a<4611686018427387904)(hn:1≤xs.length)(hn2:xs.length≤1000) :
  ∃ x,x∈xs∧Kux ⟨l,a⟩ xs=some (x,⟨l,a+1⟩):=by
 obtain⟨r,r0,r1,h⟩:=Ktt l a xs.length hl h0 h1 (by omega) (by omega)
 obtain⟨x,hx,e⟩:=Ktv xs r0 r1
 exact⟨x,hx,by unfold Kux;rw[h];simp only[bi_some,e]⟩
theorem Ktx{α:Type}{a b:List α}(h:a.length+b.length≤4294967296):apd a b=some (a++b):=by unfold apd;rw[Nat.ble_eq_true_of_le h];rfl
def Dr{α:Type}(l:List Int)(a:Int)(n:Int)(m:Option (α×Kup))(p:α→Prop):Prop:=∃ x a',p x∧a≤a'∧a'≤a+n∧m=some (x,⟨l,a'⟩)
theorem Kty(l:List Int)(a lo hi:Int)(hl:l.length≤9223372036854775807)(h0:0≤a)(h1:a<4611686018427387904)(h2:lo≤hi)(h3 : -1000000000≤lo)(h4:hi≤1000000000) :
  ∃ r,lo≤r∧r≤hi∧Kvc ⟨l,a⟩ lo hi=some (r,⟨l,a+1⟩):=by
 unfold Kvc
 have w1:wi (hi - lo)=hi - lo:=Ktr (by omega) (by omega)
 have w2:wi (hi - lo+1)=hi - lo+1:=Ktr (by omega) (by omega)
 obtain⟨r,r0,r1,hr⟩:=Ktt l a (hi - lo+1) hl h0 h1 (by omega) (by omega)
 refine⟨lo+r,by omega,by omega,?_⟩
 rw[dF (show ¬ hi<lo by omega),w1,w2,hr]
 simp only[cond_false,bi_some]
 rw[Ktr (by omega) (by omega)]
theorem oddD(l:List Int)(a lo hi:Int)(hl:l.length≤9223372036854775807)(h0:0≤a)(h1:a<4611686018427370000)(h2:lo≤hi)(h3 : -1000000000≤lo)(h4:hi≤1000000000):Dr l a 5 (Kvd ⟨l,a⟩ lo hi) fun _=>True:=by
 obtain⟨f,hf⟩:=Ktu l a 12 hl (by omega) (by omega) (by decide) (by decide)
 unfold Kvd Dr
 rw[hf]
 simp only[bi_some]
 cases f with
 | true=>
  obtain⟨x,_,hx⟩:=Ktw l (a+1) [wi (lo - 1),wi (hi+1),lo,hi,-1099511627776,1099511627776] hl (by omega) (by omega) (by simp) (by simp)
  simp only[cond_true,hx,bi_some]
  refine⟨_,_,?_,?_,?_,rfl⟩;exact trivial;omega;omega
 | false=>
  obtain⟨x,_,_,hx⟩:=Kty l (a+1) lo hi hl (by omega) (by omega) h2 h3 h4
  simp only[cond_false,hx,bi_some]
  refine⟨_,_,?_,?_,?_,rfl⟩;exact trivial;omega;omega
theorem Ktz{α ρ:Type}{f:Nat→Unit→Option (LS Unit ρ)}(p:α→Bool)(v:ρ)(s:List α)(h:∀ i x,s[i]?=some x→f i ()=some (if p x then .go () else .out v)):rangeI f (s.length:Int) ()=some (if s.all p then .go () else .out v):=by
 have key:∀ (l:List α) (i:Nat),(∀ j x,l[j]?=some x→f (i+j) ()=some (if p x then .go () else .out v))→rangeM (fun i (_:Unit) s=>f i s) i (List.replicate l.length ()) ()=some (if l.all p then .go () else .out v):=by
  intro l
  induction l with
  | nil=>intro i _;rfl
  | cons x l ih0=>
   intro i h
   have h0:=h 0 x (by simp)
   have ih:=ih0 (i+1) fun j y hy=>by rw[show i+1+j=i+(j+1) by omega];exact h (j+1) y (by simpa using hy)
   rw[Nat.add_zero] at h0
   simp only[List.length_cons,List.replicate_succ,rangeM,h0,List.all_cons]
   by_cases hp:p x=true
   ·simp only[hp,if_true,Bool.true_and];exact ih
   simp only[Bool.not_eq_true] at hp;simp[hp]
 unfold rangeI
 rw[Int.toNat_natCast]
 exact key s 0 fun j x hx=>by rw[Nat.zero_add];exact h j x hx
theorem Kua(n a b:Int):∃ c,Kvi n a b=some c∧Kwh n a b=some (!c):=by
 refine⟨_,rfl,?_⟩
 unfold Kwh
 congr 1
 rw[Bool.eq_iff_iff]
 simp
end Go.Gk
