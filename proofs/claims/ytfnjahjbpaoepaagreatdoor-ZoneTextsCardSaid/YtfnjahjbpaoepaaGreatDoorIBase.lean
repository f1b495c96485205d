import Derived.Test.YtfnjahjbpaoepaaGreatDoorXZM
set_option linter.all false
set_option maxRecDepth 100000
namespace Go.Gk
theorem Kww{σ ρ:Type}{f:σ→Option (LS σ ρ)}(I:σ→Prop)(μ:σ→Nat)(Q:ρ→Prop)(step:∀ s,I s→(∃ r,f s=some (.out r)∧Q r)∨(∃ s',f s=some (.go s')∧I s'∧μ s'<μ s)) :
  ∀ (k:Nat) (s:σ),μ s<k→I s→∃ r,loopM f k s=some r∧Q r
 | 0,s,hk,_=>absurd hk (Nat.not_lt_zero _)
 | k+1,s,hk,h=>by
  rcases step s h with⟨r,e,q⟩ | ⟨s',e,i,m⟩
  ·exact⟨r,by simp only[loopM,e],q⟩
  ·obtain⟨r,e2,q⟩:=Kww I μ Q step k s' (by omega) i
   exact⟨r,by simp only[loopM,e];exact e2,q⟩
theorem Kwx{σ ρ β:Type}{f:σ→Option (LS σ ρ)}{g:ρ→Option β}{k:Nat}{s:σ}{v:β}(I:σ→Prop)(μ:σ→Nat)(Q:ρ→Prop)
  (step:∀ s,I s→(∃ r,f s=some (.out r)∧Q r)∨(∃ s',f s=some (.go s')∧I s'∧μ s'<μ s)) (h0:I s) (hk:μ s<k) (hg:∀ r,Q r→g r=some v):bi (loopM f k s) g=some v:=by
 obtain⟨r,h1,h2⟩:=Kww I μ Q step k s hk h0
 rw[h1];exact hg r h2
theorem Kwy{α σ:Type}{f:Nat→α→σ→Option σ}(L:List α)(I:Nat→σ→Prop)(step:∀ (i:Nat) (x:α) (s:σ),L[i]?=some x→I i s→∃ s',f i x s=some s'∧I (i+1) s') :
  ∀ (l:List α) (i:Nat) (s:σ),L.drop i=l→I i s→∃ r,rangeF f i l s=some r∧I (i+l.length) r
 | [],i,s,_,h=>⟨s,rfl,h⟩
 | x :: l,i,s,hd,h=>by
  have hx:L[i]?=some x:=by have:=congrArg (fun q=>q[0]?) hd;simpa using this
  obtain⟨s',h1,h2⟩:=step i x s hx h
  obtain⟨r,h3,h4⟩:=Kwy L I step l (i+1) s' (by rw[←List.drop_drop,hd];rfl) h2
  refine⟨r,by simp only[rangeF,h1,bi_some,h3],?_⟩
  rw[List.length_cons,show i+(l.length+1)=i+1+l.length by omega]
  exact h4
theorem Kwz{σ:Type}{f:Nat→σ→Option σ}{n:Int}{s:σ}(I:Nat→σ→Prop)(h0:I 0 s)
  (step:∀ (i:Nat) (s:σ),i<n.toNat→I i s→∃ s',f i s=some s'∧I (i+1) s'):∃ r,rangeG f n s=some r∧I n.toNat r:=by
 obtain⟨r,h1,h2⟩:=Kwy (f:=fun i (_:Unit) s=>f i s) (List.replicate n.toNat ()) I (fun i x s hx hi=>step i s (by have:=(gEs.1 hx).1;simpa using this) hi) (List.replicate n.toNat ()) 0 s rfl h0
 exact⟨r,h1,by simpa using h2⟩
theorem Kxa{σ ρ β:Type}{f:σ→Option (LS σ ρ)}{g:ρ→Option β}{k:Nat}{s:σ}(s':σ){v:Option β}(h:f s=some (.go s'))(h2:bi (loopM f k s') g=v):bi (loopM f (k+1) s) g=v:=by
 simp only[loopM,h]
 exact h2
theorem Kxb{σ ρ β:Type}{f:σ→Option (LS σ ρ)}{g:ρ→Option β}{k:Nat}{s:σ}(r:ρ){v:Option β}(h:f s=some (.out r))(h2:g r=v):bi (loopM f (k+1) s) g=v:=by
 simp only[loopM,h]
 exact h2
theorem Kxc{α:Type}{l:List α}{i j:Nat}(h1:i≤j)(h2:j≤l.length):subZ l (i:Int) (j:Int)=some ((l.take j).drop i):=by
 unfold subZ
 rw[dT (show(0:Int)≤i by omega),dT (show(i:Int)≤j by omega),dT (show(j:Int)≤(l.length:Int) by omega)]
 rfl
theorem Kxd{α:Type}{l:List α}{i:Nat}{x:α}(h:l[i]?=some x):getZ l (i:Int)=some x:=by rw[getZ_cast];exact h
end Go.Gk
namespace Go.Gk
theorem Kwl{n:Int}(h1 : -9223372036854775808≤n)(h2:n≤9223372036854775807):wi n=n:=w64 ⟨h1,h2⟩
theorem Kwm{α σ:Type}{f:Nat→α→σ→Option σ}(n:Nat)(I:Nat→σ→Prop):∀ (l:List α) (i:Nat) (s:σ),i+l.length≤n→I i s→(∀ j x s,j<n→I j s→x∈l→∃ s',f j x s=some s'∧I (j+1) s')→∃ r,rangeF f i l s=some r∧I (i+l.length) r
 | [],i,s,_,h,_=>⟨s,rfl,h⟩
 | x :: l,i,s,hn,h,st=>by
  simp only[List.length_cons] at hn
  obtain⟨s',h1,h2⟩:=st i x s (by omega) h (mCs)
  obtain⟨r,h3,h4⟩:=Kwm n I l (i+1) s' (by omega) h2 fun j y s hj hI hy=>st j y s hj hI (mCo _ hy)
  refine⟨r,by simp only[rangeF,h1,bi_some,h3],?_⟩
  rw[List.length_cons,show i+(l.length+1)=i+1+l.length by omega]
  exact h4
theorem Kwn(x n:Int)(hn:1≤n)(hn2:n≤4611686018427387904):∃ r,0≤r∧r<n∧Kyd x n=some r:=by
 have h1:x.tmod n<n:=Int.tmod_lt_of_pos x (by omega)
 have h2 : -n<x.tmod n:=by
  have:=Int.tmod_lt_of_pos (-x) (show 0<n by omega)
  rw[Int.neg_tmod] at this
  omega
 unfold Kyd remZ
 rw[dF (show ¬ n<1 by omega),dF (show ¬ n=0 by omega)]
 simp only[cond_false,bi_some]
 by_cases h:x.tmod n<0
 ·rw[dT h]
  exact⟨x.tmod n+n,by omega,by omega,by simp only[cond_true,bi_some];rw[Kwl (by omega) (by omega)]⟩
 rw[dF h]
 exact⟨x.tmod n,by omega,h1,rfl⟩
theorem Kwo(l:List Int)(a n:Int)(hl:l.length≤9223372036854775807)(h0:0≤a)(h1:a<4611686018427387904)(hn:1≤n)(hn2:n≤4611686018427387904) :
  ∃ r,0≤r∧r<n∧Kye ⟨l,a⟩ n=some (r,⟨l,a+1⟩):=by
 unfold Kye
 have hw:wi (a+1)=a+1:=Kwl (by omega) (by omega)
 have hw1:wi (a+1 - 1)=a:=by rw[Kwl (by omega) (by omega)];omega
 simp only[hw,hw1]
 by_cases hne:l.length=0
 ·obtain⟨r,r0,r1,hr⟩:=Kwn (wi ((a+1) * 7919)) n hn hn2
  exact⟨r,r0,r1,by simp[hne,hr]⟩
 ·have hk:a.toNat % l.length<l.length:=Nat.mod_lt _ (by omega)
  have hkk:a.tmod (l.length:Int)=((a.toNat % l.length:Nat):Int):=by
   rw[Int.tmod_eq_emod_of_nonneg h0,Int.natCast_emod,Int.toNat_of_nonneg h0]
  have hne':¬ (l.length:Int)=0:=by omega
  obtain⟨r1,_,_,e1⟩:=Kwn l[a.toNat % l.length] 1073741824 (by decide) (by decide)
  obtain⟨r,r0,r1,hr⟩:=Kwn (wi (r1+wi (wi (a.tdiv (l.length:Int)) * wi (7919+((a.toNat % l.length:Nat):Int))))) n hn hn2
  refine⟨r,r0,r1,?_⟩
  have:((l.length:Int)==0)=false:=by simpa using hne'
  rw[this]
  simp only[cond_false,remZ,divZ,decide_eq_false hne',bi_some,hkk,getZ_cast,List.getElem?_eq_getElem hk,e1]
  rw[show IntKind.i64.wrap (a.tdiv (l.length:Int))=wi (a.tdiv (l.length:Int)) from rfl,hr]
  rfl
theorem Kwp(l:List Int)(a n:Int)(hl:l.length≤9223372036854775807)(h0:0≤a)(h1:a<4611686018427387904)(hn:1≤n)(hn2:n≤4611686018427387904) :
  ∃ b,Kyf ⟨l,a⟩ n=some (b,⟨l,a+1⟩):=by
 obtain⟨r,_,_,h⟩:=Kwo l a n hl h0 h1 hn hn2
 exact⟨_,by unfold Kyf;rw[h];rfl⟩
theorem Kwq{α:Type}(xs:List α){r:Int}(h0:0≤r)(h1:r<xs.length):∃ x,x∈xs∧getZ xs r=some x:=by
 obtain⟨k,rfl⟩:=Int.eq_ofNat_of_zero_le h0
 exact⟨xs[k],List.getElem_mem _,by rw[getZ_cast,gGe (by omega)]⟩
theorem Kwr(l:List Int)(a:Int)(xs:List Int)(hl:l.length≤9223372036854775807)(h0:0≤a)(h1:a<4611686018427387904)(hn:1≤xs.length)(hn2:xs.length≤1000) :
  ∃ x,x∈xs∧Kyg ⟨l,a⟩ xs=some (x,⟨l,a+1⟩):=by
 obtain⟨r,r0,r1,h⟩:=Kwo l a xs.length hl h0 h1 (by omega) (by omega)
 obtain⟨x,hx,e⟩:=Kwq xs r0 r1
 exact⟨x,hx,by unfold Kyg;rw[h];simp only[bi_some,e]⟩
theorem Kws{α:Type}{a b:List α}(h:a.length+b.length≤4294967296):apd a b=some (a++b):=by unfold apd;rw[Nat.ble_eq_true_of_le h];rfl
def Dr{α:Type}(l:List Int)(a:Int)(n:Int)(m:Option (α×Kxz))(p:α→Prop):Prop:=∃ x a',p x∧a≤a'∧a'≤a+n∧m=some (x,⟨l,a'⟩)
theorem Kta(l:List Int)(a lo hi:Int)(hl:l.length≤9223372036854775807)(h0:0≤a)(h1:a<4611686018427387904)(h2:lo≤hi)(h3 : -1000000000≤lo)(h4:hi≤1000000000) :
  ∃ r,lo≤r∧r≤hi∧Kyh ⟨l,a⟩ lo hi=some (r,⟨l,a+1⟩):=by
 unfold Kyh
 have w1:wi (hi - lo)=hi - lo:=Kwl (by omega) (by omega)
 have w2:wi (hi - lo+1)=hi - lo+1:=Kwl (by omega) (by omega)
 obtain⟨r,r0,r1,hr⟩:=Kwo l a (hi - lo+1) hl h0 h1 (by omega) (by omega)
 refine⟨lo+r,by omega,by omega,?_⟩
 rw[dF (show ¬ hi<lo by omega),w1,w2,hr]
 simp only[cond_false,bi_some]
 rw[Kwl (by omega) (by omega)]
theorem oddD(l:List Int)(a lo hi:Int)(hl:l.length≤9223372036854775807)(h0:0≤a)(h1:a<4611686018427370000)(h2:lo≤hi)(h3 : -1000000000≤lo)(h4:hi≤1000000000):Dr l a 5 (Kyn ⟨l,a⟩ lo hi) fun _=>True:=by
 obtain⟨f,hf⟩:=Kwp l a 12 hl (by omega) (by omega) (by decide) (by decide)
 unfold Kyn Dr
 rw[hf]
 simp only[bi_some]
 cases f with
 | true=>
  obtain⟨x,_,hx⟩:=Kwr l (a+1) [wi (lo - 1),wi (hi+1),lo,hi,-1099511627776,1099511627776] hl (by omega) (by omega) (by simp) (by simp)
  simp only[cond_true,hx,bi_some]
  refine⟨_,_,?_,?_,?_,rfl⟩;exact trivial;omega;omega
 | false=>
  obtain⟨x,_,_,hx⟩:=Kta l (a+1) lo hi hl (by omega) (by omega) h2 h3 h4
  simp only[cond_false,hx,bi_some]
  refine⟨_,_,?_,?_,?_,rfl⟩;exact trivial;omega;omega
theorem Kwt{α ρ:Type}{f:Nat→α→Unit→Option (LS Unit ρ)}:∀ (l:List α) (i:Nat),(∀ j x,j<i+l.length→x∈l→∃ y,f j x ()=some y)→∃ r,rangeM f i l ()=some r
 | [],i,_=>⟨_,rfl⟩
 | x :: l,i,h=>by
  obtain⟨y,hy⟩:=h i x (by simp) mCs
  simp only[rangeM,hy]
  cases y with
  | out r=>exact⟨_,rfl⟩
  | go s'=>exact Kwt l (i+1) fun j y hj hy=>h j y (by simp only[List.length_cons];omega) (mCo _ hy)
theorem Kwu{α ρ:Type}{f:Nat→α→Unit→Option (LS Unit ρ)}(p:α→Bool)(v:ρ):∀ (l:List α) (i:Nat),(∀ j x,l[j]?=some x→f (i+j) x ()=some (if p x then .go () else .out v))→rangeM f i l ()=some (if l.all p then .go () else .out v)
 | [],i,_=>rfl
 | x :: l,i,h=>by
  have h0:=h 0 x (by simp)
  have ih:=Kwu p v l (i+1) fun j y hy=>by rw[show i+1+j=i+(j+1) by omega];exact h (j+1) y (by simpa using hy)
  rw[Nat.add_zero] at h0
  simp only[rangeM,h0,List.all_cons]
  by_cases hp:p x=true
  ·simp only[hp,if_true,Bool.true_and];exact ih
  simp only[Bool.not_eq_true] at hp;simp[hp]
theorem Kwv{α ρ:Type}{f:Nat→Unit→Option (LS Unit ρ)}(p:α→Bool)(v:ρ)(s:List α)(h:∀ i x,s[i]?=some x→f i ()=some (if p x then .go () else .out v)):rangeI f (s.length:Int) ()=some (if s.all p then .go () else .out v):=by
 have key:∀ (l:List α) (i:Nat),(∀ j x,l[j]?=some x→f (i+j) ()=some (if p x then .go () else .out v))→rangeM (fun i (_:Unit) s=>f i s) i (List.replicate l.length ()) ()=some (if l.all p then .go () else .out v):=by
  intro l
  induction l with
  | nil=>intro i _;rfl
  | cons x l ih0=>
   intro i h
   have h0:=h 0 x (by simp)
   have ih:=ih0 (i+1) fun j y hy=>by rw[show i+1+j=i+(j+1) by omega];exact h (j+1) y (by simpa using hy)
   rw[Nat.add_zero] at h0
   simp only[List.length_cons,List.replicate_succ,rangeM,h0,List.all_cons]
   by_cases hp:p x=true
   ·simp only[hp,if_true,Bool.true_and];exact ih
   simp only[Bool.not_eq_true] at hp;simp[hp]
 unfold rangeI
 rw[Int.toNat_natCast]
 exact key s 0 fun j x hx=>by rw[Nat.zero_add];exact h j x hx
theorem Ktf(n a b:Int):∃ c,Kzm n a b=some c∧Laj n a b=some (!c):=by
 refine⟨_,rfl,?_⟩
 unfold Laj
 congr 1
 rw[Bool.eq_iff_iff]
 simp
end Go.Gk
namespace Go.Gk
def nsub(x y:Nat):Nat:=x ^^^ (x&&& y)
theorem Kxk{n:Nat}(h:n<18446744073709551616):IntKind.u64.wrap (n:Int)=n:=by
 show(n:Int) % (2 ^ 64:Int)=n
 omega
theorem Kxl{n:Nat}(h:n<9223372036854775808):IntKind.i64.wrap (n:Int)=n:=Kwl (by omega) (by omega)
theorem Kxm(x y:Nat):(BitVec.ofInt 64 (x:Int)&&& BitVec.ofInt 64 (y:Int)).toNat=(x % 2 ^ 64)&&& (y % 2 ^ 64):=by
 rw[BitVec.ofInt_natCast,BitVec.ofInt_natCast,BitVec.toNat_and,BitVec.toNat_ofNat,BitVec.toNat_ofNat]
theorem Kxn(x y:Nat):(BitVec.ofInt 64 (x:Int)||| BitVec.ofInt 64 (y:Int)).toNat=(x % 2 ^ 64)||| (y % 2 ^ 64):=by
 rw[BitVec.ofInt_natCast,BitVec.ofInt_natCast,BitVec.toNat_or,BitVec.toNat_ofNat,BitVec.toNat_ofNat]
theorem or_u{x y:Nat}(hx:x<2 ^ 64)(hy:y<2 ^ 64):bitsV .or .u64 (x:Int) (y:Int)=(x||| y:Nat):=by
 show IntKind.u64.wrap ((BitVec.ofInt 64 (x:Int)||| BitVec.ofInt 64 (y:Int)).toNat:Int)=_
 rw[Kxn,Nat.mod_eq_of_lt hx,Nat.mod_eq_of_lt hy]
 exact Kxk (Nat.or_lt_two_pow hx hy)
theorem Kxo{x y:Nat}(hx:x<2 ^ 64)(hy:y<2 ^ 64):bitsV .and .u64 (x:Int) (y:Int)=(x&&& y:Nat):=by
 show IntKind.u64.wrap ((BitVec.ofInt 64 (x:Int)&&& BitVec.ofInt 64 (y:Int)).toNat:Int)=_
 rw[Kxm,Nat.mod_eq_of_lt hx,Nat.mod_eq_of_lt hy]
 exact Kxk (Nat.lt_of_le_of_lt Nat.and_le_left hx)
theorem Kxp(x n:Nat)(hn:n≤64):shrZ .u64 (x:Int) (n:Int)=some ((x / 2 ^ n:Nat):Int):=by
 show some (Int.fdiv (x:Int) (2 ^ min n 64))=_
 rw[Nat.min_eq_left hn,Int.fdiv_eq_ediv_of_nonneg _ (Int.le_of_lt (Int.pow_pos (by decide)))]
 congr 1
theorem Kxq(x n:Nat)(hn:n≤64)(h:x * 2 ^ n<2 ^ 64):shlZ .u64 (x:Int) (n:Int)=some ((x * 2 ^ n:Nat):Int):=by
 show some (IntKind.u64.wrap ((x:Int) * 2 ^ min n 64))=_
 rw[Nat.min_eq_left hn,show(x:Int) * 2 ^ n=((x * 2 ^ n:Nat):Int) by rw[Int.natCast_mul,Int.natCast_pow];rfl,Kxk h]
def dg(n j:Nat):Nat:=n / 2 ^ (16 * j) % 2 ^ 16
theorem Kxr(n j:Nat):dg n j<2 ^ 16:=Nat.mod_lt _ (by decide)
def cl(n i:Nat):Nat:=n / 2 ^ i * 2 ^ i
def fl(n i:Nat):Nat:=n||| (2 ^ i - 1)
end Go.Gk
namespace Go.Gk
structure AOk(a:Kya):Prop where
 h0:0≤a.Hi
 h1:a.Hi<18446744073709551616
 l0:0≤a.Lo
 l1:a.Lo<18446744073709551616
def nm(a:Kya):Nat:=a.Hi.toNat * 2 ^ 64+a.Lo.toNat
abbrev W9:Type:=Int×Int×Int×Int×Int×Int×Int×Int×Int
def w9(n:Nat)(f:Bool):W9:=(dg n 0,dg n 1,dg n 2,dg n 3,dg n 4,dg n 5,dg n 6,dg n 7,if f then 1 else 0)
theorem Kxe{a:Kya}(h:AOk a)(j:Nat)(hj:j<4):dg (nm a) j=a.Lo.toNat / 2 ^ (16 * j) % 65536:=by
 have:=h.l1;have:=h.l0
 unfold dg nm
 rcases(show j=0∨j=1∨j=2∨j=3 by omega) with rfl | rfl | rfl | rfl<;>omega
theorem Kxf{a:Kya}(h:AOk a)(j:Nat)(hj:j<4):dg (nm a) (4+j)=a.Hi.toNat / 2 ^ (16 * j) % 65536:=by
 have:=h.l1;have:=h.l0
 unfold dg nm
 rcases(show j=0∨j=1∨j=2∨j=3 by omega) with rfl | rfl | rfl | rfl<;>omega
theorem Kxg{x:Int}(h0:0≤x)(h1:x<18446744073709551616)(j:Nat)(hj:j<4):∃ y,shrZ .u64 x (wi (16 * (j:Int)))=some y∧wi (bitsV .and .u64 y 65535)=((x.toNat / 2 ^ (16 * j) % 65536:Nat):Int):=by
 obtain⟨n,rfl⟩:=Int.eq_ofNat_of_zero_le h0
 have hw:wi (16 * (j:Int))=((16 * j:Nat):Int):=by rw[Kwl (by omega) (by omega)];omega
 refine⟨_,by rw[hw,Kxp n (16 * j) (by omega)],?_⟩
 have hle:n / 2 ^ (16 * j)≤n:=Nat.div_le_self _ _
 rw[show(65535:Int)=((65535:Nat):Int) from rfl,Kxo (by omega) (by decide),show(65535:Nat)=2 ^ 16 - 1 from rfl,Nat.and_two_pow_sub_one_eq_mod]
 have:n / 2 ^ (16 * j) % 2 ^ 16<2 ^ 16:=Nat.mod_lt _ (by decide)
 rw[Kwl (by omega) (by omega)]
 simp
def zl(n i j:Nat):Int:=if j<i then(dg n j:Int) else 0
def zh(n i j:Nat):Int:=if j<i then(dg n (4+j):Int) else 0
theorem Kxh(n i j:Nat)(hj:j<4)(v:Int):updA ((4+i:Nat):Int) j v (updA (i:Int) j (dg n i:Int) (zl n i j))=zl n (i+1) j:=by
 unfold updA zl
 rw[if_neg (by omega)]
 by_cases h:i=j
 ·subst h;rw[if_pos rfl,if_pos (by omega)]
 rw[if_neg (by omega)]
 by_cases h2:j<i
 ·rw[if_pos h2,if_pos (by omega)]
 rw[if_neg h2,if_neg (by omega)]
theorem Kxi(n i j:Nat)(hi:i<4)(hj:j<4)(v:Int):updA ((4+i:Nat):Int) (4+j) (dg n (4+i):Int) (updA (i:Int) (4+j) v (zh n i j))=zh n (i+1) j:=by
 unfold updA zh
 by_cases h:i=j
 ·subst h;rw[if_pos rfl,if_pos (by omega)]
 rw[if_neg (by omega),if_neg (by omega)]
 by_cases h2:j<i
 ·rw[if_pos h2,if_pos (by omega)]
 rw[if_neg h2,if_neg (by omega)]
abbrev W10:Type:=Int×Int×Int×Int×Int×Int×Int×Int×Int×Int
def s10(n i:Nat):W10:=(zl n i 0,zl n i 1,zl n i 2,zl n i 3,zh n i 0,zh n i 1,zh n i 2,zh n i 3,0,(i:Int))
theorem get9{l:List Int}(hl:l.length=9){k:Int}{i:Nat}(hk:k=(i:Int))(hi:i<9):∃ x,getZ l k=some x:=by
 subst hk
 exact⟨l[i],by rw[getZ_cast,gGe (by omega)]⟩
theorem Kxj{a:Kya}(h:AOk a)(k:Nat)(hk:5≤k):Lap k a=some (w9 (nm a) a.Six):=by
 unfold Lap
 refine Kwx (fun s:W10=>∃ i,i≤4∧s=s10 (nm a) i) (fun s=>(4 - s.2.2.2.2.2.2.2.2.2).toNat) (fun r=>r=((dg (nm a) 0:Int),(dg (nm a) 1:Int),(dg (nm a) 2:Int),(dg (nm a) 3:Int),(dg (nm a) (4+0):Int),(dg (nm a) (4+1):Int),(dg (nm a) (4+2):Int),(dg (nm a) (4+3):Int),0)) ?_ ⟨0,by decide,rfl⟩ (show(4 - 0:Int).toNat<k by omega) ?_
 ·rintro s ⟨i,hi,rfl⟩
  by_cases h4:i=4
  ·subst h4;exact .inl ⟨_,rfl,rfl⟩
  right
  have hi4:i<4:=by omega
  obtain⟨y,p,q⟩:=Kxg h.l0 h.l1 i hi4
  obtain⟨z,r,t⟩:=Kxg h.h0 h.h1 i hi4
  rw[←Kxe h _ hi4] at q
  rw[←Kxf h _ hi4] at t
  have hw:wi (4+(i:Int))=((4+i:Nat):Int):=by rw[Kwl (by omega) (by omega)];omega
  have hw2:wi ((i:Int)+1)=((i+1:Nat):Int):=by rw[Kwl (by omega) (by omega)];omega
  refine⟨s10 (nm a) (i+1),?_,⟨i+1,by omega,rfl⟩,?_⟩
  ·unfold s10
   simp only
   rw[dT (show(i:Int)<4 by omega)]
   simp only[cond_true,p,r,bi_some,q,t,hw]
   obtain⟨x1,e1⟩:=get9 (l:=[zl (nm a) i 0,zl (nm a) i 1,zl (nm a) i 2,zl (nm a) i 3,zh (nm a) i 0,zh (nm a) i 1,zh (nm a) i 2,zh (nm a) i 3,0]) rfl (k:=(i:Int)) rfl (by omega)
   rw[e1]
   simp only[bi_some]
   obtain⟨x2,e2⟩:=get9 (l:=[updA (i:Int) 0 (dg (nm a) i:Int) (zl (nm a) i 0),updA (i:Int) 1 (dg (nm a) i:Int) (zl (nm a) i 1),updA (i:Int) 2 (dg (nm a) i:Int) (zl (nm a) i 2),updA (i:Int) 3 (dg (nm a) i:Int) (zl (nm a) i 3),updA (i:Int) 4 (dg (nm a) i:Int) (zh (nm a) i 0),updA (i:Int) 5 (dg (nm a) i:Int) (zh (nm a) i 1),updA (i:Int) 6 (dg (nm a) i:Int) (zh (nm a) i 2),updA (i:Int) 7 (dg (nm a) i:Int) (zh (nm a) i 3),updA (i:Int) 8 (dg (nm a) i:Int) 0]) rfl (k:=((4+i:Nat):Int)) rfl (by omega)
   rw[e2]
   simp only[bi_some,hw2,Kxh (nm a) i _ (show 0<4 by decide),Kxh (nm a) i _ (show 1<4 by decide),Kxh (nm a) i _ (show 2<4 by decide),Kxh (nm a) i _ (show 3<4 by decide)]
   rw[show updA ((4+i:Nat):Int) 4 (dg (nm a) (4+i):Int) (updA (i:Int) 4 (dg (nm a) i:Int) (zh (nm a) i 0))=zh (nm a) (i+1) 0 from Kxi (nm a) i 0 hi4 (by decide) _,
    show updA ((4+i:Nat):Int) 5 (dg (nm a) (4+i):Int) (updA (i:Int) 5 (dg (nm a) i:Int) (zh (nm a) i 1))=zh (nm a) (i+1) 1 from Kxi (nm a) i 1 hi4 (by decide) _,
    show updA ((4+i:Nat):Int) 6 (dg (nm a) (4+i):Int) (updA (i:Int) 6 (dg (nm a) i:Int) (zh (nm a) i 2))=zh (nm a) (i+1) 2 from Kxi (nm a) i 2 hi4 (by decide) _,
    show updA ((4+i:Nat):Int) 7 (dg (nm a) (4+i):Int) (updA (i:Int) 7 (dg (nm a) i:Int) (zh (nm a) i 3))=zh (nm a) (i+1) 3 from Kxi (nm a) i 3 hi4 (by decide) _,
    show updA ((4+i:Nat):Int) 8 (dg (nm a) (4+i):Int) (updA (i:Int) 8 (dg (nm a) i:Int) 0)=0 by unfold updA;rw[if_neg (by omega),if_neg (by omega)]]
  show(4 - ((i+1:Nat):Int)).toNat<(4 - (i:Int)).toNat
  omega
 rintro r rfl
 unfold w9
 cases a.Six<;>rfl
end Go.Gk
namespace Go.Gk
theorem Kpt(n a b:Int):Lbq n a b=some (decide (a≤n∧n≤b)):=by
 unfold Lbq
 congr 1
 rw[Bool.eq_iff_iff]
 simp
theorem u64N(x:Int):0≤IntKind.u64.wrap x:=Int.emod_nonneg _ (by decide)
theorem u64L(x:Int):IntKind.u64.wrap x<18446744073709551616:=Int.emod_lt_of_pos _ (by decide)
theorem Kpu(p:UInt8→Bool):∀ l:Str,l.dropWhile p=[] ↔ ∀ x∈l,p x=true
 | []=>by simp
 | x :: r=>by
  rw[List.dropWhile_cons]
  cases h:p x with
  | true=>simp[h,Kpu p r]
  | false=>simp[h]
theorem Kpv(t cs:Str):(Lib.trimS t cs==[])=t.all fun c=>cs.contains c:=by
 rw[Bool.eq_iff_iff,beq_iff_eq,lAe]
 unfold Lib.trimS Lib.trimLeftS
 rw[Kpu]
 unfold Lib.trimRightS
 constructor
 ·intro h x hx
  have hs:t.reverse=t.reverse.takeWhile (cs.contains ·)++t.reverse.dropWhile (cs.contains ·):=(List.takeWhile_append_dropWhile).symm
  have hx':x∈t.reverse:=List.mem_reverse.2 hx
  rw[hs,List.mem_append] at hx'
  rcases hx' with hx' | hx'
  ·have:=lAe.1 (List.all_takeWhile (p:=(cs.contains ·)) (l:=t.reverse)) x hx'
   exact this
  exact h x (List.mem_reverse.2 hx')
 intro h x hx
 have:=(List.dropWhile_sublist (cs.contains ·)).subset (List.mem_reverse.1 hx)
 exact h x (List.mem_reverse.1 this)
def dgs:Str:=[48,49,50,51,52,53,54,55,56,57]
def isD(c:UInt8):Bool:=decide (48≤c.toNat)&&decide (c.toNat≤57)
theorem Kpw(c:UInt8):dgs.contains c=isD c:=by
 have key:∀ n:Fin 256,dgs.contains (UInt8.ofNat n.val)=isD (UInt8.ofNat n.val):=by decide +kernel
 have:=key ⟨c.toNat,c.toNat_lt⟩
 simpa only[UInt8.ofNat_toNat] using this
theorem Kpx{c:UInt8}(h:isD c=true):∃ d,d<10∧Lib.digitVal c=some d∧c=UInt8.ofNat (48+d)∧(c==45)=false∧(c==43)=false∧(d=0 ↔ c=48):=by
 have key:∀ n:Fin 256,isD (UInt8.ofNat n.val)=true→(UInt8.ofNat n.val).toNat - 48<10∧Lib.digitVal (UInt8.ofNat n.val)=some ((UInt8.ofNat n.val).toNat - 48)∧UInt8.ofNat n.val=UInt8.ofNat (48+((UInt8.ofNat n.val).toNat - 48))∧(UInt8.ofNat n.val==45)=false∧(UInt8.ofNat n.val==43)=false∧((UInt8.ofNat n.val).toNat - 48=0 ↔ UInt8.ofNat n.val=48):=by decide +kernel
 have:=key ⟨c.toNat,c.toNat_lt⟩
 simp only[UInt8.ofNat_toNat] at this
 exact⟨_,this h⟩
theorem Kpy:∀ (t:Str) (acc:Nat),t.all isD=true→∃ n,Lib.decFrom acc t=some n∧n<(acc+1) * 10 ^ t.length∧(1≤acc→Lib.decDigits n=Lib.decDigits acc++t)∧acc≤n
 | [],acc,_=>⟨acc,rfl,by simp,fun _=>by simp,Nat.le_refl _⟩
 | c :: t,acc,h=>by
  rw[List.all_cons,Bool.and_eq_true] at h
  obtain⟨d,d1,d2,d3,_⟩:=Kpx h.1
  obtain⟨n,n1,n2,n3,n4⟩:=Kpy t (acc * 10+d) h.2
  refine⟨n,by simp only[Lib.decFrom,d2,n1],nLl n2 ?_,fun ha=>?_,by omega⟩
  ·rw[List.length_cons,Nat.pow_succ,Nat.mul_comm (10 ^ t.length),←Nat.mul_assoc]
   exact Nat.mul_le_mul_right _ (by omega)
  rw[n3 (by omega)]
  have:Lib.decDigits (acc * 10+d)=Lib.decDigits acc++[c]:=by
   rw[Lib.decDigits,dif_neg (by omega),show(acc * 10+d) / 10=acc by omega,show(acc * 10+d) % 10=d by omega,d3]
  rw[this,List.append_assoc];rfl
theorem Kpz:∀ n:Nat,1≤n→(Lib.decDigits n)[0]?≠some 48:=by
 intro n
 induction n using Nat.strongRecOn with
 | _ n ih=>
  intro h
  by_cases h10:n<10
  ·rw[Lib.decDigits,dif_pos h10]
   have:∀ m:Fin 10,1≤m.val→([UInt8.ofNat (48+m.val)]:Str)[0]?≠some 48:=by decide
   exact this ⟨n,h10⟩ h
  rw[Lib.decDigits,dif_neg h10]
  have hne:Lib.decDigits (n / 10)≠[]:=by
   rw[Lib.decDigits];split
   ·simp
   simp
  rw[gAl (List.length_pos_iff.2 hne)]
  exact ih (n / 10) (by omega) (by omega)
theorem Kqa{t:Str}(hn:t≠[])(h:t.all isD=true):∃ n:Nat,Lib.decNat t=some n∧n<10 ^ t.length∧(Lib.decDigits n=t ↔ (t.length=1∨t[0]?≠some 48))∧(n=0→t[0]?=some 48):=by
 match t,hn,h with
 | c :: r,_,h=>
  rw[List.all_cons,Bool.and_eq_true] at h
  obtain⟨d,d1,d2,d3,_,_,d6⟩:=Kpx h.1
  obtain⟨n,n1,n2,n3,n4⟩:=Kpy r d h.2
  have e0:Lib.decNat (c :: r)=some n:=by
   unfold Lib.decNat
   rw[if_neg (by simp)]
   simp only[Lib.decFrom,d2,Nat.zero_mul,Nat.zero_add]
   exact n1
  have hlt:n<10 ^ (c :: r).length:=by
   rw[List.length_cons,Nat.pow_succ,Nat.mul_comm]
   exact nLl n2 (Nat.mul_le_mul_right _ (by omega))
  by_cases hd:d=0
  ·have hc:=d6.1 hd
   subst hc
   subst hd
   refine⟨n,e0,hlt,?_,fun _=>rfl⟩
   match r with
   | []=>
    simp only[Lib.decFrom] at n1
    cases n1
    exact⟨fun _=>.inl rfl,fun _=>by decide +kernel⟩
   | x :: r=>
    refine⟨fun he=>?_,fun h=>?_⟩
    ·exfalso
     by_cases hn0:n=0
     ·subst hn0
      have:=congrArg List.length he
      rw[show Lib.decDigits 0=[48] by decide +kernel] at this
      simp at this
     have:=Kpz n (by omega)
     rw[he] at this
     exact this rfl
    rcases h with h | h
    ·simp at h
    exact absurd rfl h
  refine⟨n,e0,hlt,?_,fun h0=>by omega⟩
  have:Lib.decDigits n=c :: r:=by
   rw[n3 (by omega),Lib.decDigits,dif_pos d1,←d3];rfl
  refine⟨fun _=>.inr ?_,fun _=>this⟩
  intro h48
  have:c=48:=by simpa using h48
  exact hd (d6.2 this)
theorem Kqb(u:Nat):Lib.itoa (u:Int)=Lib.decDigits u:=by unfold Lib.itoa;rw[if_neg (by omega)];simp
theorem Kqc(u:Nat)(h:1≤u):Lib.itoa (-(u:Int))=45 :: Lib.decDigits u:=by unfold Lib.itoa;rw[if_pos (by omega)];simp
def numB(s:Str)(most:Nat):Bool:=!(Lib.trimPrefix s [45]==[])&&(decide ((Lib.trimPrefix s [45]).length≤most)&&((Lib.trimPrefix s [45]).all isD&&!(((Lib.trimPrefix s [45])[0]?==some 48)&&!(s==[48]))))
def numV(s:Str):Int:=(Lib.atoi s).getD 0
theorem Lhy(s:Str):(Lib.trimPrefix s [45]=s∧s[0]?≠some 45)∨s=45 :: Lib.trimPrefix s [45]:=by
 unfold Lib.trimPrefix
 match s with
 | []=>exact .inl ⟨rfl,by simp⟩
 | c :: r=>
  by_cases hc:c=45
  ·subst hc;exact .inr rfl
  refine .inl ⟨?_,by simpa using hc⟩
  simp[Lib.hasPrefix,hc]
  intro h
  exact absurd h.symm hc
theorem Kqd{s:Str}{m:Nat}(hm:m≤9)(hne:Lib.trimPrefix s [45]≠[])(hl:(Lib.trimPrefix s [45]).length≤m)(hd:(Lib.trimPrefix s [45]).all isD=true) :
  ∃ n:Int,Lib.atoi s=some n∧-(10 ^ m:Nat)<n∧n<(10 ^ m:Nat)∧(Lib.itoa n=s ↔ ¬ ((Lib.trimPrefix s [45])[0]?=some 48∧s≠[48])):=by
 obtain⟨n,n1,n2,n3,n4⟩:=Kqa hne hd
 have hp:n<10 ^ m:=nLl n2 (Nat.pow_le_pow_right (by decide) hl)
 rcases Lhy s with⟨h1,h2⟩ | h1
 ·rw[h1] at hne hl hd n1 n3 n4 ⊢
  have ha:Lib.atoi s=some (n:Int):=by
   match s,hne,hd,h2,n1 with
   | c :: r,_,hd,_,n1=>
    rw[List.all_cons,Bool.and_eq_true] at hd
    obtain⟨_,_,_,_,e1,e2,_⟩:=Kpx hd.1
    simp only[Lib.atoi,e1,e2,n1]
    rfl
  refine⟨n,ha,by omega,by omega,?_⟩
  rw[Kqb,n3]
  constructor
  ·rintro(h | h) ⟨h0,h48⟩
   ·match s,h with
    | [c],_=>simp at h0;subst h0;exact h48 rfl
   ·exact h h0
  ·intro h
   by_cases h0:s[0]?=some 48
   ·have:s=[48]:=by
     by_cases hs:s=[48]
     ·exact hs
     ·exact absurd ⟨h0,hs⟩ h
    rw[this];exact .inl rfl
   ·exact .inr h0
 ·generalize Lib.trimPrefix s [45]=t at *
  subst h1
  have ha:Lib.atoi (45 :: t)=some (-(n:Int)):=by
   simp only[Lib.atoi,n1]
   rfl
  refine⟨-(n:Int),ha,by omega,by omega,?_⟩
  by_cases hn0:n=0
  ·subst hn0
   refine⟨fun h=>?_,fun h=>absurd ⟨n4 rfl,by simp⟩ h⟩
   rw[show Lib.itoa (-((0:Nat):Int))=[48] by decide +kernel] at h
   simp at h
  ·rw[Kqc n (by omega)]
   constructor
   ·intro h
    rintro⟨h0,_⟩
    have:Lib.decDigits n=t:=by simpa using h
    have h2:=Kpz n (by omega)
    rw[this] at h2
    exact h2 h0
   ·intro h
    have:t[0]?≠some 48:=fun h0=>h ⟨h0,by simp⟩
    rw[n3.2 (.inr this)]
theorem Kqe{s:Str}{m:Nat}(hm:m≤9)(hl:(Lib.trimPrefix s [45]).length≤m){n:Int}(h:Lib.atoi s=some n):Kug s=some n:=by
 unfold Kug
 have:s.length≤18:=by
  rcases Lhy s with⟨h1,_⟩ | h1
  ·rw[h1] at hl;omega
  have:=congrArg List.length h1;simp at this;omega
 rw[Nat.ble_eq_true_of_le this]
 exact h
theorem Kqf(s cs:Str)(hs:s.length≤1000000)(hc:(Nat.blt cs.length 4294967281&&cs.all fun b=>Nat.blt b.toNat 128)=true):Lbo s cs=some (s.all fun c=>cs.contains c):=by
 unfold Lbo Ktr
 rw[Nat.ble_eq_true_of_le (show s.length≤1099511627776 by omega),hc]
 show some (Lib.trimS s cs==[])=_
 rw[Kpv]
theorem Kqg{n:Int}(h1 : -9223372036854775808≤n)(h2:n≤9223372036854775807):Kua n=some (Lib.itoa n):=by
 unfold Kua
 rw[dT h1,dT h2]
 rfl
theorem numR(s:Str)(m:Nat)(hm:m≤9)(hs:s.length≤100000):∃ n,Lbp s (m:Int)=some (n,numB s m)∧(numB s m=true→n=numV s):=by
 unfold Lbp numB
 have htl:(Lib.trimPrefix s [45]).length≤100000:=by
  rcases Lhy s with⟨h1,_⟩ | h1
  ·rw[h1];exact hs
  have:=congrArg List.length h1;simp at this;omega
 rw[show Kto s [45]=some (Lib.trimPrefix s [45]) from rfl,bi_some]
 cases h1:(Lib.trimPrefix s [45]==[]) with
 | true=>exact⟨0,rfl,fun h=>by simp at h⟩
 | false=>
  have hne:Lib.trimPrefix s [45]≠[]:=by simpa using h1
  by_cases hl:(Lib.trimPrefix s [45]).length≤m
  ·rw[dF (show ¬ ((Lib.trimPrefix s [45]).length:Int)>(m:Int) by omega),dT hl]
   simp only[Bool.or_self,cond_false]
   have e:=Kqf (Lib.trimPrefix s [45]) dgs (by omega) (by decide)
   rw[show([48,49,50,51,52,53,54,55,56,57]:Str)=dgs from rfl,e,show(fun c=>dgs.contains c)=isD from funext Kpw]
   cases h2:(Lib.trimPrefix s [45]).all isD with
   | false=>exact⟨0,rfl,fun h=>by simp at h⟩
   | true=>
    obtain⟨n,n1,n2,n3,n4⟩:=Kqd hm hne hl h2
    have hpow:(10 ^ m:Nat)≤10 ^ 9:=Nat.pow_le_pow_right (by decide) hm
    have hp9:(10 ^ 9:Nat)=1000000000:=by decide
    simp only[bi_some,Bool.not_true,cond_false,Kqe hm hl n1,Kqg (n:=n) (by omega) (by omega)]
    refine⟨n,?_,fun _=>by simp[numV,n1]⟩
    congr 2
    rw[Bool.eq_iff_iff]
    simp only[beq_iff_eq,Bool.true_and,Bool.and_true,Bool.not_false,Bool.not_eq_true',Bool.and_eq_false_iff,n4]
    simp only[Bool.not_eq_false',beq_eq_false_iff_ne,beq_iff_eq,ne_eq]
    constructor
    ·intro h
     by_cases h0:(Lib.trimPrefix s [45])[0]?=some 48
     ·exact .inr (Classical.byContradiction fun hh=>h ⟨h0,hh⟩)
     exact .inl h0
    rintro(h | h) ⟨h3,h4⟩
    ·exact h h3
    exact h4 h
  rw[dT (show((Lib.trimPrefix s [45]).length:Int)>(m:Int) by omega),dF hl]
  exact⟨0,rfl,fun h=>by simp at h⟩
def dLoop(y1:Str)(s12:Int):Option (LS Int (Unit ⊕ (Int×Bool))):=bif decide ((s12:Int)<(y1.length:Int)) then(bi (getZ y1 s12) fun c22=>bi (bif decide (((c22.toNat:Int):Int)<48) then(some true) else(bi (getZ y1 s12) fun c28=>some (decide (((c28.toNat:Int):Int)>57)))) fun q24=>bif q24 then(bi (some (0,false)) fun v=>some (.out (.inr v))) else(some (.go (wi (s12+1))))) else(some (.out (.inl ())))
theorem Kqh(y:Str)(hl:y.length≤100):∀ (n k i:Nat),n=y.length - i→i≤y.length→n<k→loopM (dLoop y) k (i:Int)=some (if (y.drop i).all isD then .inl () else .inr (0,false))
 | n,0,i,_,_,h=>absurd h (Nat.not_lt_zero _)
 | n,k+1,i,hn,hi,hk=>by
  by_cases he:i<y.length
  ·have hg:getZ y (i:Int)=some y[i]:=Kxd (gGe he)
   have hdr:y.drop i=y[i] :: y.drop (i+1):=List.drop_eq_getElem_cons he
   have hstep:dLoop y (i:Int)=some (if isD y[i] then .go ((i+1:Nat):Int) else .out (.inr (0,false))):=by
    unfold dLoop
    rw[dT (show(i:Int)<(y.length:Int) by omega)]
    simp only[cond_true,hg,bi_some]
    unfold isD
    by_cases h1:48≤y[i].toNat
    ·rw[dF (show ¬ (y[i].toNat:Int)<48 by omega),dT h1]
     simp only[cond_false,bi_some,Bool.true_and]
     by_cases h2:y[i].toNat≤57
     ·rw[dF (show ¬ (y[i].toNat:Int)>57 by omega),dT h2]
      simp only[cond_false,if_true]
      rw[Kwl (by omega) (by omega)]
      rfl
     rw[dT (show(y[i].toNat:Int)>57 by omega),dF h2]
     rfl
    rw[dT (show(y[i].toNat:Int)<48 by omega),dF h1]
    rfl
   rw[hdr,List.all_cons]
   simp only[loopM,hstep]
   cases hD:isD y[i] with
   | false=>rfl
   | true=>
    simp only[if_true,Bool.true_and]
    exact Kqh y hl (n - 1) k (i+1) (by omega) (by omega) (by omega)
  have:y.drop i=[]:=List.drop_eq_nil_of_le (by omega)
  rw[this]
  simp only[loopM]
  unfold dLoop
  rw[dF (show ¬ (i:Int)<(y.length:Int) by omega)]
  rfl
theorem Kqi(k:Nat)(s:Str)(most:Int):Lbf k s most=bi (Kto s [45]) fun y1=>bi (bif (((y1:Str)==[])||(decide (((y1.length:Int):Int)>most))) then(some true) else(bi (getZ y1 0) fun c7=>some ((((c7.toNat:Int):Int)==48)&&(!((s:Str)==[48]))))) fun q3=>bif q3 then(some (0,false)) else(bi (loopM (dLoop y1) k 0) fun q=>orI q fun a16=>bi (Kug s) fun y35=>some (y35,true)):=rfl
theorem numP(s:Str)(m:Nat)(hm:m≤9):∃ n,Lbf 40000 s (m:Int)=some (n,numB s m)∧(numB s m=true→n=numV s):=by
 rw[Kqi]
 unfold numB
 rw[show Kto s [45]=some (Lib.trimPrefix s [45]) from rfl,bi_some]
 cases h1:(Lib.trimPrefix s [45]==[]) with
 | true=>exact⟨0,rfl,fun h=>by simp at h⟩
 | false=>
  have hne:Lib.trimPrefix s [45]≠[]:=by simpa using h1
  by_cases hl:(Lib.trimPrefix s [45]).length≤m
  ·rw[dF (show ¬ ((Lib.trimPrefix s [45]).length:Int)>(m:Int) by omega),dT hl]
   simp only[Bool.or_self,cond_false]
   have h0:∃ c,(Lib.trimPrefix s [45])[0]?=some c:=⟨_,gGe (List.length_pos_iff.2 hne)⟩
   obtain⟨c,hc⟩:=h0
   rw[show(0:Int)=((0:Nat):Int) from rfl,Kxd hc,bi_some,bi_some,hc]
   have hc48:(((c.toNat:Int))==48)=((some c:Option UInt8)==some 48):=by
    rw[Bool.eq_iff_iff]
    simp only[beq_iff_eq,Option.some.injEq]
    constructor
    ·intro h;exact UInt8.toNat_inj.1 (by show c.toNat=48;omega)
    intro h;subst h;rfl
   rw[hc48]
   cases h3:((some c:Option UInt8)==some 48&&!(s==[48])) with
   | true=>exact⟨0,by simp,fun h=>by simp at h⟩
   | false=>
    simp only[cond_false]
    rw[Kqh (Lib.trimPrefix s [45]) (by omega) _ 40000 0 rfl (Nat.zero_le _) (by omega),List.drop_zero]
    cases h2:(Lib.trimPrefix s [45]).all isD with
    | false=>exact⟨0,rfl,fun h=>by simp at h⟩
    | true=>
     obtain⟨n,n1,n2,n3,n4⟩:=Kqd hm hne hl h2
     refine⟨n,?_,fun _=>by simp[numV,n1]⟩
     simp only[if_true,bi_some,orI,Kqe hm hl n1]
     rfl
  rw[dT (show((Lib.trimPrefix s [45]).length:Int)>(m:Int) by omega),dF hl]
  exact⟨0,rfl,fun h=>by simp at h⟩
theorem Kqj{s:Str}{m:Nat}(hm:m≤9)(h:numB s m=true):Lib.itoa (numV s)=s∧-(10 ^ m:Nat)<numV s∧numV s<(10 ^ m:Nat):=by
 unfold numB at h
 simp only[Bool.and_eq_true,Bool.not_eq_true',beq_eq_false_iff_ne,decide_eq_true_eq] at h
 obtain⟨h1,h2,h3,h4⟩:=h
 obtain⟨n,n1,n2,n3,n4⟩:=Kqd hm h1 h2 h3
 have hv:numV s=n:=by simp[numV,n1]
 rw[hv]
 refine⟨n4.2 fun ⟨a,b⟩=>?_,n2,n3⟩
 simp[a,b] at h4
end Go.Gk
namespace Go.Gk
theorem Kqx(c:UInt8):∀ l:List Str,(Lib.join l [c]).length≤(l.map fun x=>x.length+1).sum
 | []=>by rw[Lib.join_nil];simp
 | x :: r=>by
  have key:∀ r:List Str,(Lib.joinTail [c] r).length=(r.map fun x=>x.length+1).sum:=by
   intro r
   induction r with
   | nil=>rfl
   | cons y r ih=>simp[Lib.joinTail] at ih ⊢;omega
  rw[Lib.join_cons,List.length_append,key r]
  simp
theorem Kqy{l:List Str}{m:Nat}(h:∀ x∈l,x.length≤m):(l.map fun x=>x.length+1).sum≤l.length * (m+1):=by
 induction l with
 | nil=>simp
 | cons x r ih=>
  have h1:=h x (by simp)
  have h2:=ih fun y hy=>h y (by simp[hy])
  simp only[List.map_cons,List.sum_cons,List.length_cons,Nat.add_mul,Nat.one_mul]
  omega
theorem Kqz(c:UInt8){l:List Str}{m:Nat}(hl:l.length≤1000)(hm:m≤10000)(h:∀ x∈l,x.length≤m):Kud l [c]=some (Lib.join l [c])∧(Lib.join l [c]).length≤l.length * (m+1):=by
 have h1:=Kqx c l
 have h2:=Kqy h
 have h3:l.length * (m+1)≤1000 * 10001:=Nat.mul_le_mul hl (by omega)
 refine⟨?_,by omega⟩
 unfold Kud
 rw[Nat.ble_eq_true_of_le (show l.length≤4294967296 by omega),Nat.ble_eq_true_of_le (show(Lib.join l [c]).length≤1099511627776 by omega)]
 rfl
theorem Kra{a b:Str}(h:a.length+b.length≤9223372036854775807):catZ a b=some (a++b):=by unfold catZ;rw[Nat.ble_eq_true_of_le h];rfl
theorem dig3{x:Int}(h0:0≤x)(h1:x<18446744073709551616)(j:Nat)(hj:j<4):∃ y,shrZ .u64 x ((16 * j:Nat):Int)=some y∧bitsV .and .u64 y 65535=((x.toNat / 2 ^ (16 * j) % 65536:Nat):Int):=by
 obtain⟨n,rfl⟩:=Int.eq_ofNat_of_zero_le h0
 refine⟨_,Kxp n (16 * j) (by omega),?_⟩
 have hle:n / 2 ^ (16 * j)≤n:=Nat.div_le_self _ _
 rw[show(65535:Int)=((65535:Nat):Int) from rfl,Kxo (by omega) (by decide),show(65535:Nat)=2 ^ 16 - 1 from rfl,Nat.and_two_pow_sub_one_eq_mod]
 simp
abbrev gD(a:Kya)(j:Nat):Int:=(dg (nm a) j:Int)
theorem Krb{a:Kya}(h:AOk a):Kzv 40000 a=some (gD a 7,gD a 6,gD a 5,gD a 4,gD a 3,gD a 2,gD a 1,gD a 0):=by
 obtain⟨h3,eh3,vh3⟩:=dig3 h.h0 h.h1 3 (by decide)
 obtain⟨h2,eh2,vh2⟩:=dig3 h.h0 h.h1 2 (by decide)
 obtain⟨h1,eh1,vh1⟩:=dig3 h.h0 h.h1 1 (by decide)
 obtain⟨h0,eh0,vh0⟩:=dig3 h.h0 h.h1 0 (by decide)
 obtain⟨l3,el3,vl3⟩:=dig3 h.l0 h.l1 3 (by decide)
 obtain⟨l2,el2,vl2⟩:=dig3 h.l0 h.l1 2 (by decide)
 obtain⟨l1,el1,vl1⟩:=dig3 h.l0 h.l1 1 (by decide)
 obtain⟨l0,el0,vl0⟩:=dig3 h.l0 h.l1 0 (by decide)
 rw[←Kxf h 3 (by decide)] at vh3
 rw[←Kxf h 2 (by decide)] at vh2
 rw[←Kxf h 1 (by decide)] at vh1
 rw[←Kxf h 0 (by decide)] at vh0
 rw[←Kxe h 3 (by decide)] at vl3
 rw[←Kxe h 2 (by decide)] at vl2
 rw[←Kxe h 1 (by decide)] at vl1
 rw[←Kxe h 0 (by decide)] at vl0
 have w0:wi (48 - (wi (16 * 0)))=((16 * 3:Nat):Int):=by decide
 have w1:wi (48 - (wi (16 * 1)))=((16 * 2:Nat):Int):=by decide
 have w2:wi (48 - (wi (16 * 2)))=((16 * 1:Nat):Int):=by decide
 have w3:wi (48 - (wi (16 * 3)))=((16 * 0:Nat):Int):=by decide
 unfold Kzv
 refine Kxa ((bitsV .and .u64 h3 65535,0,0,0,bitsV .and .u64 l3 65535,0,0,0),1) (by dsimp only;rw[w0,eh3,el3];rfl) ?_
 refine Kxa ((bitsV .and .u64 h3 65535,bitsV .and .u64 h2 65535,0,0,bitsV .and .u64 l3 65535,bitsV .and .u64 l2 65535,0,0),2) (by dsimp only;rw[w1,eh2,el2];rfl) ?_
 refine Kxa ((bitsV .and .u64 h3 65535,bitsV .and .u64 h2 65535,bitsV .and .u64 h1 65535,0,bitsV .and .u64 l3 65535,bitsV .and .u64 l2 65535,bitsV .and .u64 l1 65535,0),3) (by dsimp only;rw[w2,eh1,el1];rfl) ?_
 refine Kxa ((bitsV .and .u64 h3 65535,bitsV .and .u64 h2 65535,bitsV .and .u64 h1 65535,bitsV .and .u64 h0 65535,bitsV .and .u64 l3 65535,bitsV .and .u64 l2 65535,bitsV .and .u64 l1 65535,bitsV .and .u64 l0 65535),4) (by dsimp only;rw[w3,eh0,el0];rfl) ?_
 refine Kxb _ rfl ?_
 dsimp only
 rw[vh3,vh2,vh1,vh0,vl3,vl2,vl1,vl0]
theorem Krc{a:Kya}(h:AOk a):Laq 40000 a=some [gD a 7,gD a 6,gD a 5,gD a 4,gD a 3,gD a 2,gD a 1,gD a 0]:=by
 unfold Laq
 rw[Kxj h 40000 (by decide)]
 rfl
def ofind(p:Nat→Nat→Bool):Nat→Option (Nat×Nat)
 | 0=>none
 | 1=>none
 | n+2=>match (List.range' 0 (9 - (n+2))).find? (fun j=>p j (n+2)) with
  | some j=>some (j,n+2)
  | none=>ofind p (n+1)
def allZ(z:List Bool)(j n:Nat):Bool:=((z.take (j+n)).drop j).all id
def ind(b:Bool):Int:=if b then 0 else 1
theorem Krd:∀ b0 b1 b2 b3 b4 b5 b6 b7:Bool,(match Kzw 40000 (ind b0,ind b1,ind b2,ind b3,ind b4,ind b5,ind b6,ind b7),ofind (allZ [b0,b1,b2,b3,b4,b5,b6,b7]) 8 with
  | some (f,m),some (j,n)=>decide (f=(j:Int)∧m=(n:Int)∧2≤n∧j+n≤8)
  | some (f,m),none=>decide (m<2)
  | none,_=>false)=true:=by decide +kernel
theorem Kre(k:Nat)(x0 x1 x2 x3 x4 x5 x6 x7:Int):Kzw k (x0,x1,x2,x3,x4,x5,x6,x7)=Kzw k (ind (x0==0),ind (x1==0),ind (x2==0),ind (x3==0),ind (x4==0),ind (x5==0),ind (x6==0),ind (x7==0)):=by
 have hi:∀ x:Int,((ind (x==0):Int)==0)=(x==0):=fun x=>by cases h:(x==0)<;>rfl
 have key:∀ i:Int,bi (getZ ([x0,x1,x2,x3,x4,x5,x6,x7]:List Int) i) (fun x25=>some ((x25:Int)==0))=bi (getZ ([ind (x0==0),ind (x1==0),ind (x2==0),ind (x3==0),ind (x4==0),ind (x5==0),ind (x6==0),ind (x7==0)]:List Int) i) fun x25=>some ((x25:Int)==0):=fun i=>by
  cases i with
  | negSucc n=>rfl
  | ofNat n=>
   match n with
   | 0=>show some _=some _;rw[hi]
   | 1=>show some _=some _;rw[hi]
   | 2=>show some _=some _;rw[hi]
   | 3=>show some _=some _;rw[hi]
   | 4=>show some _=some _;rw[hi]
   | 5=>show some _=some _;rw[hi]
   | 6=>show some _=some _;rw[hi]
   | 7=>show some _=some _;rw[hi]
   | n+8=>rfl
 unfold Kzw
 simp only[key]
end Go.Gk
