import Derived.Test.YtfnjahjbpaoepaaGreatDoorGk39
import Derived.Test.YtfnjahjbpaoepaaGreatDoorXSM
set_option linter.all false
set_option maxRecDepth 100000
namespace Go.Gk
theorem Ksr{σ ρ:Type}{f:σ→Option (LS σ ρ)}(I:σ→Prop)(μ:σ→Nat)(Q:ρ→Prop)(step:∀ s,I s→(∃ r,f s=some (.out r)∧Q r)∨(∃ s',f s=some (.go s')∧I s'∧μ s'<μ s)) :
  ∀ (k:Nat) (s:σ),μ s<k→I s→∃ r,loopM f k s=some r∧Q r
 | 0,s,hk,_=>absurd hk (Nat.not_lt_zero _)
 | k+1,s,hk,h=>by
  rcases step s h with⟨r,e,q⟩ | ⟨s',e,i,m⟩
  ·exact⟨r,by simp only[loopM,e],q⟩
  ·obtain⟨r,e2,q⟩:=Ksr I μ Q step k s' (by omega) i
   exact⟨r,by simp only[loopM,e];exact e2,q⟩
theorem Kss{α σ:Type}{f:Nat→α→σ→Option σ}(L:List α)(I:Nat→σ→Prop)(step:∀ (i:Nat) (x:α) (s:σ),L[i]?=some x→I i s→∃ s',f i x s=some s'∧I (i+1) s') :
  ∀ (l:List α) (i:Nat) (s:σ),L.drop i=l→I i s→∃ r,rangeF f i l s=some r∧I (i+l.length) r
 | [],i,s,_,h=>⟨s,rfl,h⟩
 | x :: l,i,s,hd,h=>by
  have hx:L[i]?=some x:=by have:=congrArg (fun q=>q[0]?) hd;simpa using this
  obtain⟨s',h1,h2⟩:=step i x s hx h
  obtain⟨r,h3,h4⟩:=Kss L I step l (i+1) s' (by rw[←List.drop_drop,hd];rfl) h2
  refine⟨r,by simp only[rangeF,h1,bi_some,h3],?_⟩
  rw[List.length_cons,show i+(l.length+1)=i+1+l.length by omega]
  exact h4
theorem Kst{σ:Type}{f:Nat→σ→Option σ}{n:Int}{s:σ}(I:Nat→σ→Prop)(h0:I 0 s)
  (step:∀ (i:Nat) (s:σ),i<n.toNat→I i s→∃ s',f i s=some s'∧I (i+1) s'):∃ r,rangeG f n s=some r∧I n.toNat r:=by
 obtain⟨r,h1,h2⟩:=Kss (f:=fun i (_:Unit) s=>f i s) (List.replicate n.toNat ()) I (fun i x s hx hi=>step i s (by have:=(gEs.1 hx).1;simpa using this) hi) (List.replicate n.toNat ()) 0 s rfl h0
 exact⟨r,h1,by simpa using h2⟩
theorem Ksu{α σ ρ:Type}{f:Nat→α→σ→Option (LS σ ρ)}(L:List α)(I:Nat→σ→Prop)(Q:ρ→Prop)(step:∀ (i:Nat) (x:α) (s:σ),L[i]?=some x→I i s→(∃ s',f i x s=some (.go s')∧I (i+1) s')∨∃ r,f i x s=some (.out r)∧Q r) :
  ∀ (l:List α) (i:Nat) (s:σ),L.drop i=l→I i s→(∃ s',rangeM f i l s=some (.go s')∧I (i+l.length) s')∨∃ r,rangeM f i l s=some (.out r)∧Q r
 | [],i,s,_,h=>.inl ⟨s,rfl,h⟩
 | x :: l,i,s,hd,h=>by
  have hx:L[i]?=some x:=by have:=congrArg (fun q=>q[0]?) hd;simpa using this
  rcases step i x s hx h with⟨s',h1,h2⟩ | ⟨r,h1,h2⟩
  ·rcases Ksu L I Q step l (i+1) s' (by rw[←List.drop_drop,hd];rfl) h2 with⟨s2,h3,h4⟩ | ⟨r,h3,h4⟩
   ·refine .inl ⟨s2,by simp only[rangeM,h1,h3],?_⟩
    rw[List.length_cons,show i+(l.length+1)=i+1+l.length by omega]
    exact h4
   ·exact .inr ⟨r,by simp only[rangeM,h1,h3],h4⟩
  ·exact .inr ⟨r,by simp only[rangeM,h1],h2⟩
theorem Ksv{α σ σ' ρ ρ':Type}{f:Nat→α→σ→Option (LS σ ρ)}{g:Nat→α→σ'→Option (LS σ' ρ')}(L:List α)(I:Nat→σ→σ'→Prop)(Q:ρ→ρ'→Prop)
  (step:∀ (i:Nat) (x:α) (s:σ) (t:σ'),L[i]?=some x→I i s t→(∃ s' t',f i x s=some (.go s')∧g i x t=some (.go t')∧I (i+1) s' t')∨∃ r q,f i x s=some (.out r)∧g i x t=some (.out q)∧Q r q) :
  ∀ (l:List α) (i:Nat) (s:σ) (t:σ'),L.drop i=l→I i s t→(∃ s' t',rangeM f i l s=some (.go s')∧rangeM g i l t=some (.go t')∧I (i+l.length) s' t')∨∃ r q,rangeM f i l s=some (.out r)∧rangeM g i l t=some (.out q)∧Q r q
 | [],i,s,t,_,h=>.inl ⟨s,t,rfl,rfl,h⟩
 | x :: l,i,s,t,hd,h=>by
  have hx:L[i]?=some x:=by have:=congrArg (fun q=>q[0]?) hd;simpa using this
  rcases step i x s t hx h with⟨s',t',h1,h1',h2⟩ | ⟨r,q,h1,h1',h2⟩
  ·rcases Ksv L I Q step l (i+1) s' t' (by rw[←List.drop_drop,hd];rfl) h2 with⟨s2,t2,h3,h3',h4⟩ | ⟨r,q,h3,h3',h4⟩
   ·refine .inl ⟨s2,t2,by simp only[rangeM,h1,h3],by simp only[rangeM,h1',h3'],?_⟩
    rw[List.length_cons,show i+(l.length+1)=i+1+l.length by omega]
    exact h4
   ·exact .inr ⟨r,q,by simp only[rangeM,h1,h3],by simp only[rangeM,h1',h3'],h4⟩
  ·exact .inr ⟨r,q,by simp only[rangeM,h1],by simp only[rangeM,h1'],h2⟩
theorem Ksw{α σ τ:Type}{f:Nat→α→σ→Option σ}{g:Nat→α→τ→Option τ}(L:List α)(I:Nat→σ→τ→Prop)
  (step:∀ (i:Nat) (x:α) (s:σ) (t:τ),L[i]?=some x→I i s t→∃ s' t',f i x s=some s'∧g i x t=some t'∧I (i+1) s' t') :
  ∀ (l:List α) (i:Nat) (s:σ) (t:τ),L.drop i=l→I i s t→∃ s' t',rangeF f i l s=some s'∧rangeF g i l t=some t'∧I (i+l.length) s' t'
 | [],i,s,t,_,h=>⟨s,t,rfl,rfl,h⟩
 | x :: l,i,s,t,hd,h=>by
  have hx:L[i]?=some x:=by have:=congrArg (fun q=>q[0]?) hd;simpa using this
  obtain⟨s',t',h1,h1',h2⟩:=step i x s t hx h
  obtain⟨s2,t2,h3,h3',h4⟩:=Ksw L I step l (i+1) s' t' (by rw[←List.drop_drop,hd];rfl) h2
  refine⟨s2,t2,by simp only[rangeF,h1,bi_some,h3],by simp only[rangeF,h1',bi_some,h3'],?_⟩
  rw[List.length_cons,show i+(l.length+1)=i+1+l.length by omega]
  exact h4
theorem Ksx{α:Type}{l:List α}{i j:Nat}(h1:i≤j)(h2:j≤l.length):subZ l (i:Int) (j:Int)=some ((l.take j).drop i):=by
 unfold subZ
 rw[dT (show(0:Int)≤i by omega),dT (show(i:Int)≤j by omega),dT (show(j:Int)≤(l.length:Int) by omega)]
 rfl
theorem Ksy{α:Type}{l:List α}{i:Nat}{x:α}(h:l[i]?=some x):getZ l (i:Int)=some x:=by rw[getZ_cast];exact h
theorem Ksz{α:Type}{l:List α}{i:Int}{j:Nat}{x:α}(hi:i=(j:Int))(h:l[j]?=some x):getZ l i=some x:=by subst hi;exact Ksy h
end Go.Gk
namespace Go.Gk
theorem Ktc{n:Int}(h1 : -9223372036854775808≤n)(h2:n≤9223372036854775807):wi n=n:=w64 ⟨h1,h2⟩
theorem Ktd(x n:Int)(hn:1≤n)(hn2:n≤4611686018427387904):∃ r,0≤r∧r<n∧Kyb x n=some r:=by
 have h1:x.tmod n<n:=Int.tmod_lt_of_pos x (by omega)
 have h2 : -n<x.tmod n:=by
  have:=Int.tmod_lt_of_pos (-x) (show 0<n by omega)
  rw[Int.neg_tmod] at this
  omega
 unfold Kyb remZ
 rw[dF (show ¬ n<1 by omega),dF (show ¬ n=0 by omega)]
 simp only[cond_false,bi_some]
 by_cases h:x.tmod n<0
 ·rw[dT h]
  exact⟨x.tmod n+n,by omega,by omega,by simp only[cond_true,bi_some];rw[Ktc (by omega) (by omega)]⟩
 rw[dF h]
 exact⟨x.tmod n,by omega,h1,rfl⟩
theorem Kte(l:List Int)(a n:Int)(hl:l.length≤9223372036854775807)(h0:0≤a)(h1:a<4611686018427387904)(hn:1≤n)(hn2:n≤4611686018427387904) :
  ∃ r,0≤r∧r<n∧Kyc ⟨l,a⟩ n=some (r,⟨l,a+1⟩):=by
 unfold Kyc
 have hw:wi (a+1)=a+1:=Ktc (by omega) (by omega)
 have hw1:wi (a+1 - 1)=a:=by rw[Ktc (by omega) (by omega)];omega
 simp only[hw,hw1]
 by_cases hne:l.length=0
 ·obtain⟨r,r0,r1,hr⟩:=Ktd (wi ((a+1) * 7919)) n hn hn2
  exact⟨r,r0,r1,by simp[hne,hr]⟩
 ·have hk:a.toNat % l.length<l.length:=Nat.mod_lt _ (by omega)
  have hkk:a.tmod (l.length:Int)=((a.toNat % l.length:Nat):Int):=by
   rw[Int.tmod_eq_emod_of_nonneg h0,Int.natCast_emod,Int.toNat_of_nonneg h0]
  have hne':¬ (l.length:Int)=0:=by omega
  obtain⟨r1,_,_,e1⟩:=Ktd l[a.toNat % l.length] 1073741824 (by decide) (by decide)
  obtain⟨r,r0,r1,hr⟩:=Ktd (wi (r1+wi (wi (a.tdiv (l.length:Int)) * wi (7919+((a.toNat % l.length:Nat):Int))))) n hn hn2
  refine⟨r,r0,r1,?_⟩
  have:((l.length:Int)==0)=false:=by simpa using hne'
  rw[this]
  simp only[cond_false,remZ,divZ,decide_eq_false hne',bi_some,hkk,getZ_cast,List.getElem?_eq_getElem hk,e1]
  rw[show IntKind.i64.wrap (a.tdiv (l.length:Int))=wi (a.tdiv (l.length:Int)) from rfl,hr]
  rfl
theorem Ktf(l:List Int)(a n:Int)(hl:l.length≤9223372036854775807)(h0:0≤a)(h1:a<4611686018427387904)(hn:1≤n)(hn2:n≤4611686018427387904) :
  ∃ b,Kyi ⟨l,a⟩ n=some (b,⟨l,a+1⟩):=by
 obtain⟨r,_,_,h⟩:=Kte l a n hl h0 h1 hn hn2
 exact⟨_,by unfold Kyi;rw[h];rfl⟩
theorem Ktg{α:Type}(xs:List α){r:Int}(h0:0≤r)(h1:r<xs.length):∃ x,x∈xs∧getZ xs r=some x:=by
 obtain⟨k,rfl⟩:=Int.eq_ofNat_of_zero_le h0
 exact⟨xs[k],List.getElem_mem _,by rw[getZ_cast,gGe (by omega)]⟩
theorem Kth(l:List Int)(a:Int)(xs:List Str)(hl:l.length≤9223372036854775807)(h0:0≤a)(h1:a<4611686018427387904)(hn:1≤xs.length)(hn2:xs.length≤1000) :
  ∃ x,x∈xs∧Kye ⟨l,a⟩ xs=some (x,⟨l,a+1⟩):=by
 obtain⟨r,r0,r1,h⟩:=Kte l a xs.length hl h0 h1 (by omega) (by omega)
 obtain⟨x,hx,e⟩:=Ktg xs r0 r1
 exact⟨x,hx,by unfold Kye;rw[h];simp only[bi_some,e]⟩
theorem Kti(l:List Int)(a:Int)(xs:List Int)(hl:l.length≤9223372036854775807)(h0:0≤a)(h1:a<4611686018427387904)(hn:1≤xs.length)(hn2:xs.length≤1000) :
  ∃ x,x∈xs∧Kyf ⟨l,a⟩ xs=some (x,⟨l,a+1⟩):=by
 obtain⟨r,r0,r1,h⟩:=Kte l a xs.length hl h0 h1 (by omega) (by omega)
 obtain⟨x,hx,e⟩:=Ktg xs r0 r1
 exact⟨x,hx,by unfold Kyf;rw[h];simp only[bi_some,e]⟩
theorem Ktj{α:Type}{a b:List α}(h:a.length+b.length≤4294967296):apd a b=some (a++b):=by unfold apd;rw[Nat.ble_eq_true_of_le h];rfl
def Dr{α:Type}(l:List Int)(a:Int)(n:Int)(m:Option (α×Kxw))(p:α→Prop):Prop:=∃ x a',p x∧a≤a'∧a'≤a+n∧m=some (x,⟨l,a'⟩)
theorem Ktk(l:List Int)(a lo hi:Int)(hl:l.length≤9223372036854775807)(h0:0≤a)(h1:a<4611686018427387904)(h2:lo≤hi)(h3 : -1000000000≤lo)(h4:hi≤1000000000) :
  ∃ r,lo≤r∧r≤hi∧Kyd ⟨l,a⟩ lo hi=some (r,⟨l,a+1⟩):=by
 unfold Kyd
 have w1:wi (hi - lo)=hi - lo:=Ktc (by omega) (by omega)
 have w2:wi (hi - lo+1)=hi - lo+1:=Ktc (by omega) (by omega)
 obtain⟨r,r0,r1,hr⟩:=Kte l a (hi - lo+1) hl h0 h1 (by omega) (by omega)
 refine⟨lo+r,by omega,by omega,?_⟩
 rw[dF (show ¬ hi<lo by omega),w1,w2,hr]
 simp only[cond_false,bi_some]
 rw[Ktc (by omega) (by omega)]
theorem Ktl{α σ ρ:Type}{f g:Nat→α→σ→Option (LS σ ρ)}:∀ (l:List α) (i:Nat) (s:σ),(∀ j x s,x∈l→f j x s=g j x s)→rangeM f i l s=rangeM g i l s
 | [],i,s,_=>rfl
 | x :: l,i,s,h=>by
  simp only[rangeM,h i x s List.mem_cons_self]
  cases g i x s with
  | none=>rfl
  | some y=>
   cases y with
   | out r=>rfl
   | go s'=>exact Ktl l (i+1) s' fun j y s hy=>h j y s (mCo _ hy)
theorem Ktm{α ρ:Type}{f:Nat→α→Unit→Option (LS Unit ρ)}:∀ (l:List α) (i:Nat),(∀ j x,j<i+l.length→x∈l→∃ y,f j x ()=some y)→∃ r,rangeM f i l ()=some r
 | [],i,_=>⟨_,rfl⟩
 | x :: l,i,h=>by
  obtain⟨y,hy⟩:=h i x (by simp) mCs
  simp only[rangeM,hy]
  cases y with
  | out r=>exact⟨_,rfl⟩
  | go s'=>exact Ktm l (i+1) fun j y hj hy=>h j y (by simp only[List.length_cons];omega) (mCo _ hy)
theorem Ktn(n a b:Int):∃ c,Kyx n a b=some c∧Kzx n a b=some (!c):=by
 refine⟨_,rfl,?_⟩
 unfold Kzx
 congr 1
 rw[Bool.eq_iff_iff]
 simp
def cmpI(x y:Int):Int:=if x<y then -1 else if x>y then 1 else 0
theorem Kto(x y:Int):Kyl x y=some (cmpI x y):=by
 unfold Kyl Kyk cmpI
 have:∀ z:Int,(z != z)=false:=fun z=>by simp
 rw[this,this]
 by_cases h:x<y
 ·simp[h]
 by_cases h2:y<x<;>simp[h,h2]
theorem Ktp(x:Int)(l:List Int):∃ c,Kym (x :: l)=some c∧(x≠0→c=x):=by
 unfold Kym
 by_cases h:x=0
 ·generalize hf:(fun (i1:Nat) (x3:Int) (s2:Unit)=>_)=f
  obtain⟨r,hr⟩:=Ktm (f:=f) (x :: l) 0 (by
   intro j x _ _
   subst hf
   simp only
   cases (x != 0)<;>exact⟨_,rfl⟩)
  rw[hr]
  cases r<;>exact⟨_,rfl,fun h2=>absurd h h2⟩
 have:(x != 0)=true:=by simpa using h
 exact⟨x,by simp[rangeM,this,goI],fun _=>rfl⟩
end Go.Gk
namespace Go.Gk
def ixZ{α:Type}(p:α→Bool)(l:List α):Int:=match l.findIdx? p with
 | some i=>(i:Int)
 | none=>-1
theorem Kur{α:Type}{p:α→Bool}{l:List α}(h:l.any p=false):ixZ p l=-1:=by
 unfold ixZ
 rw[List.findIdx?_eq_none_iff.2 (by simpa using h)]
theorem Kus{α:Type}{p:α→Bool}{l:List α}(h:l.any p=true):∃ (i:Nat) (a:α),ixZ p l=(i:Int)∧l.findIdx? p=some i∧l[i]?=some a∧p a=true∧(l.take i).any p=false:=by
 unfold ixZ
 cases hi:l.findIdx? p with
 | none=>
  rw[List.findIdx?_eq_none_iff] at hi
  rw[List.any_eq_true] at h
  obtain⟨x,hx,hp⟩:=h
  rw[hi x hx] at hp;cases hp
 | some i=>
  obtain⟨h1,h2,h3⟩:=lFi.1 hi
  refine⟨i,l[i],rfl,rfl,gGe h1,h2,?_⟩
  rw[List.any_eq_false]
  intro x hx
  obtain⟨j,hj,e⟩:=List.getElem_of_mem hx
  rw[List.length_take] at hj
  rw[List.getElem_take] at e
  subst e
  have:=h3 j (by omega)
  simpa using this
theorem Kut{α:Type}(p:α→Bool)(l:List α):decide (ixZ p l≥0)=l.any p:=by
 cases h:l.any p with
 | false=>rw[Kur h];rfl
 | true=>obtain⟨i,a,e,_⟩:=Kus h;rw[e];simp
theorem Kuu{α:Type}{f:Nat→α→Unit→Option (LS Unit Int)}(p:α→Bool):∀ (l:List α) (i:Nat),(∀ (j:Nat) x,l[j]?=some x→f (i+j) x ()=some (if p x then .out ((i+j:Nat):Int) else .go ()))→
  rangeM f i l ()=some (match l.findIdx? p with | some j=>.out ((i+j:Nat):Int) | none=>.go ())
 | [],i,_=>rfl
 | x :: l,i,h=>by
  have h0:=h 0 x (by simp)
  have ih:=Kuu p l (i+1) fun j y hy=>by rw[show i+1+j=i+(j+1) by omega];exact h (j+1) y (by simpa using hy)
  rw[Nat.add_zero] at h0
  simp only[rangeM,h0,List.findIdx?_cons]
  by_cases hp:p x=true
  ·simp[hp]
  ·simp only[Bool.not_eq_true] at hp
   simp only[hp,Bool.false_eq_true,if_false,ih]
   cases l.findIdx? p with
   | none=>rfl
   | some j=>simp only[Option.map_some];rw[show i+1+j=i+(j+1) by omega]
theorem Kuv{α:Type}{f:Nat→α→Unit→Option (LS Unit Int)}(p:α→Bool)(l:List α)(h:∀ (j:Nat) x,l[j]?=some x→f j x ()=some (if p x then .out (j:Int) else .go ())) :
  (bi (rangeM f 0 l ()) fun q=>goI q fun _=>some (-1))=some (ixZ p l):=by
 rw[Kuu p l 0 fun j x hx=>by rw[Nat.zero_add];exact h j x hx]
 unfold ixZ
 cases l.findIdx? p with
 | none=>rfl
 | some j=>simp
def ups{α:Type}(q:α→Bool)(f:α→α)(y:α):List α→List α
 | []=>[y]
 | a :: l=>if q a then f a :: l else a :: ups q f y l
inductive F2 {α β:Type} (R:α→β→Prop):List α→List β→Prop
 | nil:F2 R [] []
 | cons {a:α} {b:β} {l:List α} {m:List β}:R a b→F2 R l m→F2 R (a :: l) (b :: m)
theorem F2.len{α β:Type}{R:α→β→Prop}{l:List α}{m:List β}(h:F2 R l m):l.length=m.length:=by
 induction h with
 | nil=>rfl
 | cons _ _ ih=>simp[ih]
theorem F2.at{α β:Type}{R:α→β→Prop}{l:List α}{m:List β}(h:F2 R l m):∀ {i:Nat} {a:α},l[i]?=some a→∃ b,m[i]?=some b∧R a b:=by
 induction h with
 | nil=>intro i a h;simp at h
 | cons hr _ ih=>
  intro i a h
  cases i with
  | zero=>simp only[List.getElem?_cons_zero,Option.some.injEq] at h;subst h;exact⟨_,by simp,hr⟩
  | succ i=>simpa using ih (by simpa using h)
theorem F2.filter{α β:Type}{R:α→β→Prop}{p:α→Bool}{q:β→Bool}{l:List α}{m:List β}(h:F2 R l m)(hp:∀ a b,R a b→p a=q b):F2 R (l.filter p) (m.filter q):=by
 induction h with
 | nil=>exact .nil
 | @cons a b l m hr _ ih=>
  simp only[List.filter_cons,hp a b hr]
  cases q b with
  | true=>exact .cons hr ih
  | false=>exact ih
theorem F2.any{α β:Type}{R:α→β→Prop}{p:α→Bool}{q:β→Bool}{l:List α}{m:List β}(h:F2 R l m)(hp:∀ a b,R a b→p a=q b):l.any p=m.any q:=by
 induction h with
 | nil=>rfl
 | @cons a b l m hr _ ih=>simp[hp a b hr,ih]
theorem F2.ups{α β:Type}{R:α→β→Prop}{p:α→Bool}{q:β→Bool}{f:α→α}{g:β→β}{y:α}{z:β}{l:List α}{m:List β}(h:F2 R l m)(hp:∀ a b,R a b→p a=q b)(hf:∀ a b,R a b→q b=true→R (f a) (g b))(hy:R y z):F2 R (ups p f y l) (ups q g z m):=by
 induction h with
 | nil=>exact .cons hy .nil
 | @cons a b l m hr ht ih=>
  simp only[Go.Gk.ups,hp a b hr]
  by_cases hq:q b=true
  ·simp only[hq,if_true];exact .cons (hf a b hr hq) ht
  simp only[Bool.not_eq_true] at hq;simp only[hq,Bool.false_eq_true,if_false];exact .cons hr ih
def Lv(al:List Bool)(ts:List Nat):Prop:=(∀ t∈ts,t=1∨∃ q,t=q+2∧al[q]?=some true)∧ts.Pairwise (fun a b=>a=b→a=1)
def Exl(n:Nat)(al al':List Bool):Prop:=al.length≤al'.length∧n≤al.length∧∀ q,q<n→al'[q]?=al[q]?
theorem Lv.ext{al al':List Bool}{ts:List Nat}(h:Lv al ts)(he:Exl al.length al al'):Lv al' ts:=by
 refine⟨fun t ht=>?_,h.2⟩
 rcases h.1 t ht with h | ⟨q,e,h⟩
 ·exact .inl h
 exact .inr ⟨q,e,by rw[he.2.2 q (gEs.1 h).1];exact h⟩
theorem Lv.sub{al:List Bool}{ts ts':List Nat}(h:Lv al ts)(hs:ts'.Sublist ts):Lv al ts':=⟨fun t ht=>h.1 t (hs.subset ht),h.2.sublist hs⟩
theorem Lv.one{al:List Bool}{ts:List Nat}(h:Lv al ts):Lv al (ts++[1]):=by
 refine⟨fun t ht=>?_,?_⟩
 ·rcases List.mem_append.1 ht with ht | ht
  ·exact h.1 t ht
  exact .inl (List.mem_singleton.1 ht)
 rw[List.pairwise_append]
 exact⟨h.2,List.pairwise_singleton _ _,fun a ha b hb e=>by rw[e];exact List.mem_singleton.1 hb⟩
theorem Lv.lt{al:List Bool}{ts:List Nat}(h:Lv al ts):∀ t∈ts,t<al.length+2:=fun t ht=>by
 rcases h.1 t ht with rfl | ⟨q,rfl,h⟩
 ·omega
 have:=(gEs.1 h).1;omega
theorem Kuw{α:Type}{R:α→α→Prop}{l:List α}(h:l.Pairwise R){i j:Nat}{a b:α}(hij:i<j)(ha:l[i]?=some a)(hb:l[j]?=some b):R a b:=by
 obtain⟨h1,rfl⟩:=gEs.1 ha
 obtain⟨h2,rfl⟩:=gEs.1 hb
 exact List.pairwise_iff_getElem.1 h i j h1 h2 hij
theorem Kux{α:Type}{R:α→α→Prop}{l:List α}(h:∀ (i j:Nat) (a b:α),i<j→l[i]?=some a→l[j]?=some b→R a b):l.Pairwise R:=
 List.pairwise_iff_getElem.2 fun i j h1 h2 hij=>h i j _ _ hij (gGe h1) (gGe h2)
theorem Lv.app{α:Type}{al:List Bool}{ts:List Nat}{i:Nat}{s:Tl α}(y:α)(h:Lv al ts)(hi:ts[i]?=some s.1)(hl:s.2.length<4294967296) :
  ∃ al',appT al s [y]=some ((al.length+2,s.2++[y]),al')∧Lv al' (ts.set i (al.length+2))∧al'.length=al.length+1∧∀ q,q<al.length→q+2≠s.1→al'[q]?=al[q]?:=by
 have hap:apd s.2 [y]=some (s.2++[y]):=Ktj (by simp;omega)
 have hlt:=h.lt
 have key:∀ al0:List Bool,al0.length=al.length→(∀ q,q<al.length→q+2≠s.1→al0[q]?=al[q]?)→Lv (al0++[true]) (ts.set i (al.length+2)):=by
  intro al0 hl0 hq
  have hil:i<ts.length:=(gEs.1 hi).1
  refine⟨fun t ht=>?_,Kux fun a b x z hab hx hz e=>?_⟩
  ·obtain⟨j,hj,e⟩:=List.getElem_of_mem ht
   rw[List.length_set] at hj
   by_cases hji:i=j
   ·subst hji
    rw[List.getElem_set_self] at e
    subst e
    exact .inr ⟨al.length,rfl,by rw[←hl0];simp⟩
   ·rw[List.getElem_set_ne hji] at e
    rcases h.1 t (e▸List.getElem_mem _) with h1 | ⟨q,e1,h1⟩
    ·exact .inl h1
    ·have hq1:=(gEs.1 h1).1
     refine .inr ⟨q,e1,?_⟩
     rw[gAl (by omega),hq q hq1 ?_]
     ·exact h1
     ·rw[←e1];intro e2
      have hj':ts[j]?=some t:=by rw[gGe hj,e]
      rcases Nat.lt_or_ge i j with h3 | h3
      ·have:=Kuw h.2 h3 hi hj' e2.symm;omega
      ·have:=Kuw h.2 (show j<i by omega) hj' hi e2;omega
  ·rw[List.getElem?_set] at hx hz
   by_cases h1:i=a
   ·subst h1
    rw[if_pos rfl,if_pos hil] at hx
    rw[if_neg (by omega)] at hz
    cases hx
    have:=hlt z (mOg hz);omega
   ·rw[if_neg h1] at hx
    by_cases h2:i=b
    ·subst h2
     rw[if_pos rfl,if_pos hil] at hz
     cases hz
     have:=hlt x (mOg hx);omega
    ·rw[if_neg h2] at hz
     exact Kuw h.2 hab hx hz e
 obtain⟨t,l⟩:=s
 unfold appT
 simp only at hap hi key ⊢
 rw[hap]
 simp only[bi_some,List.isEmpty_cons,cond_false]
 rcases h.1 t (mOg hi) with rfl | ⟨q,rfl,hq⟩
 ·exact⟨_,rfl,key al rfl fun _ _ _=>rfl,by simp,fun q hq _=>by rw[gAl hq]⟩
 ·simp only[hq,Option.getD_some,cond_true]
  refine⟨_,rfl,key _ (by simp) fun q' h1 h2=>by rw[gSn (by omega)],by simp,fun q' h1 h2=>by rw[gAl (by simpa using h1),gSn (by omega)]⟩
end Go.Gk
namespace Go.Gk
def Ok{α:Type}(m:Option α)(Q:α→Prop):Prop:=∃ r,m=some r∧Q r
def Two{α β:Type}(m:Option α)(n:Option β)(R:α→β→Prop):Prop:=∃ r q,m=some r∧n=some q∧R r q
section
variable{α β γ δ σ τ ρ ρ':Type}
theorem Kvi{r:α}{Q:α→Prop}(h:Q r):Ok (some r) Q:=⟨r,rfl,h⟩
theorem Kvj{m:Option α}{g:α→Option β}{P:α→Prop}{Q:β→Prop}(h:Ok m P)(k:∀ r,P r→Ok (g r) Q):Ok (bi m g) Q:=by
 obtain⟨r,rfl,hr⟩:=h
 exact k r hr
theorem Kvk{m:Option α}{g:α→Option β}{r:α}{Q:β→Prop}(h:m=some r)(k:Ok (g r) Q):Ok (bi m g) Q:=by subst h;exact k
theorem Kvl{m:Option α}{P Q:α→Prop}(h:Ok m P)(k:∀ r,P r→Q r):Ok m Q:=let ⟨r,h1,h2⟩:=h;⟨r,h1,k r h2⟩
theorem Kvm{b:Bool}{m n:Option α}{Q:α→Prop}(h1:b=true→Ok m Q)(h2:b=false→Ok n Q):Ok (bif b then m else n) Q:=by
 cases b with
 | true=>exact h1 rfl
 | false=>exact h2 rfl
theorem Kvn{b:Bool}{m:Option α}{Q:α→Prop}(hb:b=true)(h:Ok m Q):Ok (gd b m) Q:=by subst hb;exact h
theorem Kvo{f:Nat→σ→Option σ}{n:Int}{s:σ}(I:Nat→σ→Prop)(h0:I 0 s)(step:∀ (i:Nat) (s:σ),i<n.toNat→I i s→Ok (f i s) (I (i+1))):Ok (rangeG f n s) (I n.toNat):=Kst I h0 step
theorem Kvp{f:Nat→α→σ→Option (LS σ ρ)}{l:List α}{s:σ}(I:Nat→σ→Prop)(Q:ρ→Prop)(h0:I 0 s)
  (step:∀ (i:Nat) (x:α) (s:σ),l[i]?=some x→I i s→Ok (f i x s) fun r=>match r with | .go s'=>I (i+1) s' | .out q=>Q q):Ok (rangeM f 0 l s) fun r=>match r with | .go s'=>I l.length s' | .out q=>Q q:=by
 rcases Ksu l I Q (fun i x s hx hi=>by
  obtain⟨r,h1,h2⟩:=step i x s hx hi
  cases r with
  | go s'=>exact .inl ⟨s',h1,h2⟩
  | out q=>exact .inr ⟨q,h1,h2⟩) l 0 s rfl h0 with⟨s',h1,h2⟩ | ⟨q,h1,h2⟩
 ·exact⟨_,h1,by simpa using h2⟩
 ·exact⟨_,h1,h2⟩
theorem Kvq{f:σ→Option (LS σ ρ)}{k:Nat}{s:σ}(I:σ→Prop)(μ:σ→Nat)(Q:ρ→Prop)(h0:I s)(hk:μ s<k)(step:∀ s,I s→Ok (f s) fun r=>match r with | .go s'=>I s'∧μ s'<μ s | .out q=>Q q):Ok (loopM f k s) Q:=
 Ksr I μ Q (fun s hi=>by
  obtain⟨r,h1,h2⟩:=step s hi
  cases r with
  | go s'=>exact .inr ⟨s',h1,h2.1,h2.2⟩
  | out q=>exact .inl ⟨q,h1,h2⟩) k s hk h0
theorem Kvr{l:List α}{i:Int}{j:Nat}{x:α}{g:α→Option β}{Q:β→Prop}(hi:i=(j:Int))(h:l[j]?=some x)(k:Ok (g x) Q):Ok (bi (getZ l i) g) Q:=Kvk (Ksz hi h) k
theorem Kvs{a b:List α}{g:List α→Option β}{Q:β→Prop}(h:a.length+b.length≤4294967296)(k:Ok (g (a++b)) Q):Ok (bi (apd a b) g) Q:=Kvk (Ktj h) k
theorem Kvt{r:α}{q:β}{R:α→β→Prop}(h:R r q):Two (some r) (some q) R:=⟨r,q,rfl,rfl,h⟩
theorem Kvu{m:Option α}{g:β→Option γ}{n:Option β}{r:β}{R:α→γ→Prop}(h:n=some r)(k:Two m (g r) R):Two m (bi n g) R:=by subst h;exact k
theorem Kvv{m:Option α}{n:Option β}{g:α→Option γ}{h:β→Option δ}{P:α→β→Prop}{R:γ→δ→Prop}(hm:Two m n P)(k:∀ r q,P r q→Two (g r) (h q) R):Two (bi m g) (bi n h) R:=by
 obtain⟨r,q,rfl,rfl,hr⟩:=hm
 exact k r q hr
theorem Kvw{b c:Bool}{m m':Option α}{n n':Option β}{R:α→β→Prop}(hbc:b=c)(h1:b=true→Two m n R)(h2:b=false→Two m' n' R):Two (bif b then m else m') (bif c then n else n') R:=by
 subst hbc
 cases b with
 | true=>exact h1 rfl
 | false=>exact h2 rfl
def LSR(I:σ→τ→Prop)(Q:ρ→ρ'→Prop):LS σ ρ→LS τ ρ'→Prop
 | .go s,.go t=>I s t
 | .out r,.out q=>Q r q
 | _,_=>False
theorem Kvx{f:Nat→α→σ→Option (LS σ ρ)}{g:Nat→α→τ→Option (LS τ ρ')}{l:List α}{s:σ}{t:τ}(I:Nat→σ→τ→Prop)(Q:ρ→ρ'→Prop)(h0:I 0 s t)
  (step:∀ (i:Nat) (x:α) (s:σ) (t:τ),l[i]?=some x→I i s t→Two (f i x s) (g i x t) (LSR (I (i+1)) Q)):Two (rangeM f 0 l s) (rangeM g 0 l t) (LSR (I l.length) Q):=by
 rcases Ksv l I Q (fun i x s t hx hi=>by
  obtain⟨r,q,h1,h2,h3⟩:=step i x s t hx hi
  cases r<;>cases q<;>first | exact h3.elim | exact .inl ⟨_,_,h1,h2,h3⟩ | exact .inr ⟨_,_,h1,h2,h3⟩) l 0 s t rfl h0 with⟨s',t',h1,h2,h3⟩ | ⟨r,q,h1,h2,h3⟩
 ·exact⟨_,_,h1,h2,by simpa [LSR] using h3⟩
 ·exact⟨_,_,h1,h2,h3⟩
end
def At(l:List Int)(a b:Int)(s:Kxw):Prop:=s.L=l∧a≤s.v_at∧s.v_at≤b
theorem At.eq{l:List Int}{a b:Int}{s:Kxw}(h:At l a b s):s=⟨l,s.v_at⟩:=by rw[←h.1]
theorem At.up{l:List Int}{a b a' b':Int}{s:Kxw}(h:At l a b s)(h1:a'≤a)(h2:b≤b'):At l a' b' s:=⟨h.1,by have:=h.2.1;omega,by have:=h.2.2;omega⟩
theorem Kvy{l:List Int}{a b:Int}{s:Kxw}(h:At l a b s)(n:Int)(hl:l.length≤9223372036854775807)(h0:0≤a)(h1:b<4611686018427387904)(hn:1≤n)(hn2:n≤4611686018427387904) :
  Ok (Kyi s n) fun r=>At l (a+1) (b+1) r.2:=by
 obtain⟨e1,e2,e3⟩:=h
 obtain⟨c,hc⟩:=Ktf l s.v_at n hl (by omega) (by omega) hn hn2
 rw[←e1] at hc
 exact⟨_,hc,e1,by simp only;omega,by simp only;omega⟩
theorem Kvz{l:List Int}{a b:Int}{s:Kxw}(h:At l a b s)(xs:List Int)(hl:l.length≤9223372036854775807)(h0:0≤a)(h1:b<4611686018427387904)(hn:1≤xs.length)(hn2:xs.length≤1000) :
  Ok (Kyf s xs) fun r=>r.1∈xs∧At l (a+1) (b+1) r.2:=by
 obtain⟨e1,e2,e3⟩:=h
 obtain⟨c,hc,hp⟩:=Kti l s.v_at xs hl (by omega) (by omega) hn hn2
 rw[←e1] at hp
 exact⟨_,hp,hc,e1,by simp only;omega,by simp only;omega⟩
theorem Kwa{l:List Int}{a b:Int}{s:Kxw}(h:At l a b s)(xs:List Str)(hl:l.length≤9223372036854775807)(h0:0≤a)(h1:b<4611686018427387904)(hn:1≤xs.length)(hn2:xs.length≤1000) :
  Ok (Kye s xs) fun r=>r.1∈xs∧At l (a+1) (b+1) r.2:=by
 obtain⟨e1,e2,e3⟩:=h
 obtain⟨c,hc,hp⟩:=Kth l s.v_at xs hl (by omega) (by omega) hn hn2
 rw[←e1] at hp
 exact⟨_,hp,hc,e1,by simp only;omega,by simp only;omega⟩
theorem Kwb{l:List Int}{a b:Int}{s:Kxw}(h:At l a b s)(lo hi:Int)(hl:l.length≤9223372036854775807)(h0:0≤a)(h1:b<4611686018427387904)(h2:lo≤hi)(h3 : -1000000000≤lo)(h4:hi≤1000000000) :
  Ok (Kyd s lo hi) fun r=>lo≤r.1∧r.1≤hi∧At l (a+1) (b+1) r.2:=by
 obtain⟨e1,e2,e3⟩:=h
 obtain⟨c,c1,c2,hp⟩:=Ktk l s.v_at lo hi hl (by omega) (by omega) h2 h3 h4
 rw[←e1] at hp
 exact⟨_,hp,c1,c2,e1,by simp only;omega,by simp only;omega⟩
end Go.Gk
