import Derived.Test.YtjmlnnanfkiakaaGreatDoorXKM
import Derived.Test.YtjmlnnanfkiakaaGreatDoorPMap
set_option linter.all false
set_option maxRecDepth 100000
namespace Go.Gk
theorem Kxl{n:Int}(h1 : -9223372036854775808≤n)(h2:n≤9223372036854775807):wi n=n:=w64 ⟨h1,h2⟩
theorem Kxm{α σ:Type}{f:Nat→α→σ→Option σ}(n:Nat)(I:Nat→σ→Prop):∀ (l:List α) (i:Nat) (s:σ),i+l.length≤n→I i s→(∀ j x s,j<n→I j s→x∈l→∃ s',f j x s=some s'∧I (j+1) s')→∃ r,rangeF f i l s=some r∧I (i+l.length) r
 | [],i,s,_,h,_=>⟨s,rfl,h⟩
 | x :: l,i,s,hn,h,st=>by
  simp only[List.length_cons] at hn
  obtain⟨s',h1,h2⟩:=st i x s (by omega) h (List.mem_cons_self)
  obtain⟨r,h3,h4⟩:=Kxm n I l (i+1) s' (by omega) h2 fun j y s hj hI hy=>st j y s hj hI (List.mem_cons_of_mem _ hy)
  refine⟨r,by simp only[rangeF,h1,bi_some,h3],?_⟩
  rw[List.length_cons,show i+(l.length+1)=i+1+l.length by omega]
  exact h4
theorem Kxn(x n:Int)(hn:1≤n)(hn2:n≤4611686018427387904):∃ r,0≤r∧r<n∧Lck x n=some r:=by
 have h1:x.tmod n<n:=Int.tmod_lt_of_pos x (by omega)
 have h2 : -n<x.tmod n:=by
  have:=Int.tmod_lt_of_pos (-x) (show 0<n by omega)
  rw[Int.neg_tmod] at this
  omega
 unfold Lck remZ
 rw[decide_eq_false (show ¬ n<1 by omega),decide_eq_false (show ¬ n=0 by omega)]
 simp only[cond_false,bi_some]
 by_cases h:x.tmod n<0
 ·rw[decide_eq_true h]
  exact⟨x.tmod n+n,by omega,by omega,by simp only[cond_true,bi_some];rw[Kxl (by omega) (by omega)]⟩
 rw[decide_eq_false h]
 exact⟨x.tmod n,by omega,h1,rfl⟩
theorem Kxo(l:List Int)(a n:Int)(hl:l.length≤9223372036854775807)(h0:0≤a)(h1:a<4611686018427387904)(hn:1≤n)(hn2:n≤4611686018427387904) :
  ∃ r,0≤r∧r<n∧Lcl ⟨l,a⟩ n=some (r,⟨l,a+1⟩):=by
 unfold Lcl
 have hw:wi (a+1)=a+1:=Kxl (by omega) (by omega)
 have hw1:wi (a+1 - 1)=a:=by rw[Kxl (by omega) (by omega)];omega
 simp only[hw,hw1]
 by_cases hne:l.length=0
 ·obtain⟨r,r0,r1,hr⟩:=Kxn (wi ((a+1) * 7919)) n hn hn2
  exact⟨r,r0,r1,by simp[hne,hr]⟩
 ·have hk:a.toNat % l.length<l.length:=Nat.mod_lt _ (by omega)
  have hkk:a.tmod (l.length:Int)=((a.toNat % l.length:Nat):Int):=by
   rw[Int.tmod_eq_emod_of_nonneg h0,Int.natCast_emod,Int.toNat_of_nonneg h0]
  have hne':¬ (l.length:Int)=0:=by omega
  obtain⟨r1,_,_,e1⟩:=Kxn l[a.toNat % l.length] 1073741824 (by decide) (by decide)
  obtain⟨r,r0,r1,hr⟩:=Kxn (wi (r1+wi (wi (a.tdiv (l.length:Int)) * wi (7919+((a.toNat % l.length:Nat):Int))))) n hn hn2
  refine⟨r,r0,r1,?_⟩
  have:((l.length:Int)==0)=false:=by simpa using hne'
  rw[this]
  simp only[cond_false,remZ,divZ,decide_eq_false hne',bi_some,hkk,getZ_cast,List.getElem?_eq_getElem hk,e1]
  rw[show IntKind.i64.wrap (a.tdiv (l.length:Int))=wi (a.tdiv (l.length:Int)) from rfl,hr]
  rfl
theorem Kxp(l:List Int)(a n:Int)(hl:l.length≤9223372036854775807)(h0:0≤a)(h1:a<4611686018427387904)(hn:1≤n)(hn2:n≤4611686018427387904) :
  ∃ b,Lco ⟨l,a⟩ n=some (b,⟨l,a+1⟩):=by
 obtain⟨r,_,_,h⟩:=Kxo l a n hl h0 h1 hn hn2
 exact⟨_,by unfold Lco;rw[h];rfl⟩
theorem Kxq{α:Type}(xs:List α){r:Int}(h0:0≤r)(h1:r<xs.length):∃ x,x∈xs∧getZ xs r=some x:=by
 obtain⟨k,rfl⟩:=Int.eq_ofNat_of_zero_le h0
 exact⟨xs[k],List.getElem_mem _,by rw[getZ_cast,List.getElem?_eq_getElem (by omega)]⟩
theorem Kxr(l:List Int)(a:Int)(xs:List Str)(hl:l.length≤9223372036854775807)(h0:0≤a)(h1:a<4611686018427387904)(hn:1≤xs.length)(hn2:xs.length≤1000) :
  ∃ x,x∈xs∧Lcq ⟨l,a⟩ xs=some (x,⟨l,a+1⟩):=by
 obtain⟨r,r0,r1,h⟩:=Kxo l a xs.length hl h0 h1 (by omega) (by omega)
 obtain⟨x,hx,e⟩:=Kxq xs r0 r1
 exact⟨x,hx,by unfold Lcq;rw[h];simp only[bi_some,e]⟩
theorem Kxs(l:List Int)(a:Int)(xs:List Int)(hl:l.length≤9223372036854775807)(h0:0≤a)(h1:a<4611686018427387904)(hn:1≤xs.length)(hn2:xs.length≤1000) :
  ∃ x,x∈xs∧Lcn ⟨l,a⟩ xs=some (x,⟨l,a+1⟩):=by
 obtain⟨r,r0,r1,h⟩:=Kxo l a xs.length hl h0 h1 (by omega) (by omega)
 obtain⟨x,hx,e⟩:=Kxq xs r0 r1
 exact⟨x,hx,by unfold Lcn;rw[h];simp only[bi_some,e]⟩
theorem Kxt{a b:Str}(h:a.length+b.length≤9223372036854775807):catZ a b=some (a++b):=by unfold catZ;rw[Nat.ble_eq_true_of_le h];rfl
theorem Kxu{α:Type}{a b:List α}(h:a.length+b.length≤4294967296):apd a b=some (a++b):=by unfold apd;rw[Nat.ble_eq_true_of_le h];rfl
def Dr{α:Type}(l:List Int)(a:Int)(n:Int)(m:Option (α×Lbv))(p:α→Prop):Prop:=∃ x a',p x∧a≤a'∧a'≤a+n∧m=some (x,⟨l,a'⟩)
theorem Kxv(l:List Int)(a lo hi:Int)(hl:l.length≤9223372036854775807)(h0:0≤a)(h1:a<4611686018427387904)(h2:lo≤hi)(h3 : -1000000000≤lo)(h4:hi≤1000000000) :
  ∃ r,lo≤r∧r≤hi∧Lcm ⟨l,a⟩ lo hi=some (r,⟨l,a+1⟩):=by
 unfold Lcm
 have w1:wi (hi - lo)=hi - lo:=Kxl (by omega) (by omega)
 have w2:wi (hi - lo+1)=hi - lo+1:=Kxl (by omega) (by omega)
 obtain⟨r,r0,r1,hr⟩:=Kxo l a (hi - lo+1) hl h0 h1 (by omega) (by omega)
 refine⟨lo+r,by omega,by omega,?_⟩
 rw[decide_eq_false (show ¬ hi<lo by omega),w1,w2,hr]
 simp only[cond_false,bi_some]
 rw[Kxl (by omega) (by omega)]
theorem Kxw{α σ ρ:Type}{f g:Nat→α→σ→Option (LS σ ρ)}:∀ (l:List α) (i:Nat) (s:σ),(∀ j x s,x∈l→f j x s=g j x s)→rangeM f i l s=rangeM g i l s
 | [],i,s,_=>rfl
 | x :: l,i,s,h=>by
  simp only[rangeM,h i x s List.mem_cons_self]
  cases g i x s with
  | none=>rfl
  | some y=>
   cases y with
   | out r=>rfl
   | go s'=>exact Kxw l (i+1) s' fun j y s hy=>h j y s (List.mem_cons_of_mem _ hy)
theorem Kxx{α ρ:Type}{f:Nat→α→Unit→Option (LS Unit ρ)}:∀ (l:List α) (i:Nat),(∀ j x,j<i+l.length→x∈l→∃ y,f j x ()=some y)→∃ r,rangeM f i l ()=some r
 | [],i,_=>⟨_,rfl⟩
 | x :: l,i,h=>by
  obtain⟨y,hy⟩:=h i x (by simp) List.mem_cons_self
  simp only[rangeM,hy]
  cases y with
  | out r=>exact⟨_,rfl⟩
  | go s'=>exact Kxx l (i+1) fun j y hj hy=>h j y (by simp only[List.length_cons];omega) (List.mem_cons_of_mem _ hy)
theorem Kxy{α ρ:Type}{f:Nat→α→Unit→Option (LS Unit ρ)}(p:α→Bool)(v:ρ):∀ (l:List α) (i:Nat),(∀ j x,l[j]?=some x→f (i+j) x ()=some (if p x then .go () else .out v))→rangeM f i l ()=some (if l.all p then .go () else .out v)
 | [],i,_=>rfl
 | x :: l,i,h=>by
  have h0:=h 0 x (by simp)
  have ih:=Kxy p v l (i+1) fun j y hy=>by rw[show i+1+j=i+(j+1) by omega];exact h (j+1) y (by simpa using hy)
  rw[Nat.add_zero] at h0
  simp only[rangeM,h0,List.all_cons]
  by_cases hp:p x=true
  ·simp only[hp,if_true,Bool.true_and];exact ih
  simp only[Bool.not_eq_true] at hp;simp[hp]
theorem Kxz{α ρ:Type}{f:Nat→Unit→Option (LS Unit ρ)}(p:α→Bool)(v:ρ)(s:List α)(h:∀ i x,s[i]?=some x→f i ()=some (if p x then .go () else .out v)):rangeI f (s.length:Int) ()=some (if s.all p then .go () else .out v):=by
 have key:∀ (l:List α) (i:Nat),(∀ j x,l[j]?=some x→f (i+j) ()=some (if p x then .go () else .out v))→rangeM (fun i (_:Unit) s=>f i s) i (List.replicate l.length ()) ()=some (if l.all p then .go () else .out v):=by
  intro l
  induction l with
  | nil=>intro i _;rfl
  | cons x l ih0=>
   intro i h
   have h0:=h 0 x (by simp)
   have ih:=ih0 (i+1) fun j y hy=>by rw[show i+1+j=i+(j+1) by omega];exact h (j+1) y (by simpa using hy)
   rw[Nat.add_zero] at h0
   simp only[List.length_cons,List.replicate_succ,rangeM,h0,List.all_cons]
   by_cases hp:p x=true
   ·simp only[hp,if_true,Bool.true_and];exact ih
   simp only[Bool.not_eq_true] at hp;simp[hp]
 unfold rangeI
 rw[Int.toNat_natCast]
 exact key s 0 fun j x hx=>by rw[Nat.zero_add];exact h j x hx
theorem Kya(n a b:Int):∃ c,Lea n a b=some c∧Ldj n a b=some (!c):=by
 refine⟨_,rfl,?_⟩
 unfold Ldj
 congr 1
 rw[Bool.eq_iff_iff]
 simp
def cmpI(x y:Int):Int:=if x<y then -1 else if x>y then 1 else 0
theorem Kyb(x y:Int):Lcw x y=some (cmpI x y):=by
 unfold Lcw Lcv cmpI
 have:∀ z:Int,(z != z)=false:=fun z=>by simp
 rw[this,this]
 by_cases h:x<y
 ·simp[h]
 by_cases h2:y<x<;>simp[h,h2]
theorem Kyc(x:Int)(l:List Int):∃ c,Lcx (x :: l)=some c∧(x≠0→c=x):=by
 unfold Lcx
 by_cases h:x=0
 ·generalize hf:(fun (i1:Nat) (x3:Int) (s2:Unit)=>_)=f
  obtain⟨r,hr⟩:=Kxx (f:=f) (x :: l) 0 (by
   intro j x _ _
   subst hf
   simp only
   cases (x != 0)<;>exact⟨_,rfl⟩)
  rw[hr]
  cases r<;>exact⟨_,rfl,fun h2=>absurd h h2⟩
 have:(x != 0)=true:=by simpa using h
 exact⟨x,by simp[rangeM,this,goI],fun _=>rfl⟩
end Go.Gk
