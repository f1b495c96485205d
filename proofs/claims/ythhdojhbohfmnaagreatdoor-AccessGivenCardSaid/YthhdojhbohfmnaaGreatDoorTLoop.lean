import Derived.Test.YthhdojhbohfmnaaGreatDoorXGM
import Derived.Lib.SplitLaws
set_option linter.all false
set_option maxRecDepth 100000
namespace Go.Gk
theorem Kve{σ ρ:Type}{f:σ→Option (LS σ ρ)}(I:σ→Prop)(μ:σ→Nat)(Q:ρ→Prop)(step:∀ s,I s→(∃ r,f s=some (.out r)∧Q r)∨(∃ s',f s=some (.go s')∧I s'∧μ s'<μ s)) :
  ∀ (k:Nat) (s:σ),μ s<k→I s→∃ r,loopM f k s=some r∧Q r
 | 0,s,hk,_=>absurd hk (Nat.not_lt_zero _)
 | k+1,s,hk,h=>by
  rcases step s h with⟨r,e,q⟩ | ⟨s',e,i,m⟩
  ·exact⟨r,by simp only[loopM,e],q⟩
  ·obtain⟨r,e2,q⟩:=Kve I μ Q step k s' (by omega) i
   exact⟨r,by simp only[loopM,e];exact e2,q⟩
theorem Kvf{σ ρ β:Type}{f:σ→Option (LS σ ρ)}{g:ρ→Option β}{k:Nat}{s:σ}{v:β}(I:σ→Prop)(μ:σ→Nat)(Q:ρ→Prop)
  (step:∀ s,I s→(∃ r,f s=some (.out r)∧Q r)∨(∃ s',f s=some (.go s')∧I s'∧μ s'<μ s)) (h0:I s) (hk:μ s<k) (hg:∀ r,Q r→g r=some v):bi (loopM f k s) g=some v:=by
 obtain⟨r,h1,h2⟩:=Kve I μ Q step k s hk h0
 rw[h1];exact hg r h2
theorem Kvg{α σ:Type}{f:Nat→α→σ→Option σ}(L:List α)(I:Nat→σ→Prop)(step:∀ (i:Nat) (x:α) (s:σ),L[i]?=some x→I i s→∃ s',f i x s=some s'∧I (i+1) s') :
  ∀ (l:List α) (i:Nat) (s:σ),L.drop i=l→I i s→∃ r,rangeF f i l s=some r∧I (i+l.length) r
 | [],i,s,_,h=>⟨s,rfl,h⟩
 | x :: l,i,s,hd,h=>by
  have hx:L[i]?=some x:=by have:=congrArg (fun q=>q[0]?) hd;simpa using this
  obtain⟨s',h1,h2⟩:=step i x s hx h
  obtain⟨r,h3,h4⟩:=Kvg L I step l (i+1) s' (by rw[←List.drop_drop,hd];rfl) h2
  refine⟨r,by simp only[rangeF,h1,bi_some,h3],?_⟩
  rw[List.length_cons,show i+(l.length+1)=i+1+l.length by omega]
  exact h4
theorem Kvh{α σ β:Type}{f:Nat→α→σ→Option σ}{g:σ→Option β}{l:List α}{s:σ}{v:β}(I:Nat→σ→Prop)(h0:I 0 s)
  (step:∀ (i:Nat) (x:α) (s:σ),l[i]?=some x→I i s→∃ s',f i x s=some s'∧I (i+1) s') (hg:∀ r,I l.length r→g r=some v):bi (rangeF f 0 l s) g=some v:=by
 obtain⟨r,h1,h2⟩:=Kvg l I step l 0 s rfl h0
 rw[h1];exact hg r (by simpa using h2)
theorem Kvi{σ:Type}{f:Nat→σ→Option σ}{n:Int}{s:σ}(I:Nat→σ→Prop)(h0:I 0 s)
  (step:∀ (i:Nat) (s:σ),i<n.toNat→I i s→∃ s',f i s=some s'∧I (i+1) s'):∃ r,rangeG f n s=some r∧I n.toNat r:=by
 obtain⟨r,h1,h2⟩:=Kvg (f:=fun i (_:Unit) s=>f i s) (List.replicate n.toNat ()) I (fun i x s hx hi=>step i s (by have:=(gEs.1 hx).1;simpa using this) hi) (List.replicate n.toNat ()) 0 s rfl h0
 exact⟨r,h1,by simpa using h2⟩
theorem Kvj{σ β:Type}{f:Nat→σ→Option σ}{g:σ→Option β}{n:Int}{s:σ}{v:β}(I:Nat→σ→Prop)(h0:I 0 s)
  (step:∀ (i:Nat) (s:σ),i<n.toNat→I i s→∃ s',f i s=some s'∧I (i+1) s') (hg:∀ r,I n.toNat r→g r=some v):bi (rangeG f n s) g=some v:=by
 obtain⟨r,h1,h2⟩:=Kvi I h0 step
 rw[h1];exact hg r h2
theorem Kvk{α σ ρ:Type}{f:Nat→α→σ→Option (LS σ ρ)}(L:List α)(I:Nat→σ→Prop)(Q:ρ→Prop)(step:∀ (i:Nat) (x:α) (s:σ),L[i]?=some x→I i s→(∃ s',f i x s=some (.go s')∧I (i+1) s')∨∃ r,f i x s=some (.out r)∧Q r) :
  ∀ (l:List α) (i:Nat) (s:σ),L.drop i=l→I i s→(∃ s',rangeM f i l s=some (.go s')∧I (i+l.length) s')∨∃ r,rangeM f i l s=some (.out r)∧Q r
 | [],i,s,_,h=>.inl ⟨s,rfl,h⟩
 | x :: l,i,s,hd,h=>by
  have hx:L[i]?=some x:=by have:=congrArg (fun q=>q[0]?) hd;simpa using this
  rcases step i x s hx h with⟨s',h1,h2⟩ | ⟨r,h1,h2⟩
  ·rcases Kvk L I Q step l (i+1) s' (by rw[←List.drop_drop,hd];rfl) h2 with⟨s2,h3,h4⟩ | ⟨r,h3,h4⟩
   ·refine .inl ⟨s2,by simp only[rangeM,h1,h3],?_⟩
    rw[List.length_cons,show i+(l.length+1)=i+1+l.length by omega]
    exact h4
   ·exact .inr ⟨r,by simp only[rangeM,h1,h3],h4⟩
  ·exact .inr ⟨r,by simp only[rangeM,h1],h2⟩
theorem Kvl{α σ σ' ρ ρ':Type}{f:Nat→α→σ→Option (LS σ ρ)}{g:Nat→α→σ'→Option (LS σ' ρ')}(L:List α)(I:Nat→σ→σ'→Prop)(Q:ρ→ρ'→Prop)
  (step:∀ (i:Nat) (x:α) (s:σ) (t:σ'),L[i]?=some x→I i s t→(∃ s' t',f i x s=some (.go s')∧g i x t=some (.go t')∧I (i+1) s' t')∨∃ r q,f i x s=some (.out r)∧g i x t=some (.out q)∧Q r q) :
  ∀ (l:List α) (i:Nat) (s:σ) (t:σ'),L.drop i=l→I i s t→(∃ s' t',rangeM f i l s=some (.go s')∧rangeM g i l t=some (.go t')∧I (i+l.length) s' t')∨∃ r q,rangeM f i l s=some (.out r)∧rangeM g i l t=some (.out q)∧Q r q
 | [],i,s,t,_,h=>.inl ⟨s,t,rfl,rfl,h⟩
 | x :: l,i,s,t,hd,h=>by
  have hx:L[i]?=some x:=by have:=congrArg (fun q=>q[0]?) hd;simpa using this
  rcases step i x s t hx h with⟨s',t',h1,h1',h2⟩ | ⟨r,q,h1,h1',h2⟩
  ·rcases Kvl L I Q step l (i+1) s' t' (by rw[←List.drop_drop,hd];rfl) h2 with⟨s2,t2,h3,h3',h4⟩ | ⟨r,q,h3,h3',h4⟩
   ·refine .inl ⟨s2,t2,by simp only[rangeM,h1,h3],by simp only[rangeM,h1',h3'],?_⟩
    rw[List.length_cons,show i+(l.length+1)=i+1+l.length by omega]
    exact h4
   ·exact .inr ⟨r,q,by simp only[rangeM,h1,h3],by simp only[rangeM,h1',h3'],h4⟩
  ·exact .inr ⟨r,q,by simp only[rangeM,h1],by simp only[rangeM,h1'],h2⟩
theorem Kvm{σ τ ρ ρ':Type}{f:σ→Option (LS σ ρ)}{g:τ→Option (LS τ ρ')}(I:σ→τ→Prop)(μ:σ→Nat)(Q:ρ→ρ'→Prop)
  (step:∀ s t,I s t→(∃ r q,f s=some (.out r)∧g t=some (.out q)∧Q r q)∨(∃ s' t',f s=some (.go s')∧g t=some (.go t')∧I s' t'∧μ s'<μ s)) :
  ∀ (k:Nat) (s:σ) (t:τ),μ s<k→I s t→∃ r q,loopM f k s=some r∧loopM g k t=some q∧Q r q
 | 0,s,t,hk,_=>absurd hk (Nat.not_lt_zero _)
 | k+1,s,t,hk,h=>by
  rcases step s t h with⟨r,q,e1,e2,hq⟩ | ⟨s',t',e1,e2,i,m⟩
  ·exact⟨r,q,by simp only[loopM,e1],by simp only[loopM,e2],hq⟩
  ·obtain⟨r,q,e3,e4,hq⟩:=Kvm I μ Q step k s' t' (by omega) i
   exact⟨r,q,by simp only[loopM,e1];exact e3,by simp only[loopM,e2];exact e4,hq⟩
theorem Kvn{α σ τ:Type}{f:Nat→α→σ→Option σ}{g:Nat→α→τ→Option τ}(L:List α)(I:Nat→σ→τ→Prop)
  (step:∀ (i:Nat) (x:α) (s:σ) (t:τ),L[i]?=some x→I i s t→∃ s' t',f i x s=some s'∧g i x t=some t'∧I (i+1) s' t') :
  ∀ (l:List α) (i:Nat) (s:σ) (t:τ),L.drop i=l→I i s t→∃ s' t',rangeF f i l s=some s'∧rangeF g i l t=some t'∧I (i+l.length) s' t'
 | [],i,s,t,_,h=>⟨s,t,rfl,rfl,h⟩
 | x :: l,i,s,t,hd,h=>by
  have hx:L[i]?=some x:=by have:=congrArg (fun q=>q[0]?) hd;simpa using this
  obtain⟨s',t',h1,h1',h2⟩:=step i x s t hx h
  obtain⟨s2,t2,h3,h3',h4⟩:=Kvn L I step l (i+1) s' t' (by rw[←List.drop_drop,hd];rfl) h2
  refine⟨s2,t2,by simp only[rangeF,h1,bi_some,h3],by simp only[rangeF,h1',bi_some,h3'],?_⟩
  rw[List.length_cons,show i+(l.length+1)=i+1+l.length by omega]
  exact h4
theorem Kvo{σ ρ β:Type}{f:σ→Option (LS σ ρ)}{g:ρ→Option β}{k:Nat}{s:σ}(s':σ){v:Option β}(h:f s=some (.go s'))(h2:bi (loopM f k s') g=v):bi (loopM f (k+1) s) g=v:=by
 simp only[loopM,h]
 exact h2
theorem Kvp{σ ρ β:Type}{f:σ→Option (LS σ ρ)}{g:ρ→Option β}{k:Nat}{s:σ}(r:ρ){v:Option β}(h:f s=some (.out r))(h2:g r=v):bi (loopM f (k+1) s) g=v:=by
 simp only[loopM,h]
 exact h2
theorem Kvq{α σ:Type}{f:α→σ→Option σ}{x:α}{s r:σ}(h:f x s=some r):rangeP f [x] s=some r:=by
 rw[Kld]
 intro m' hm
 rw[List.perm_singleton.1 hm]
 simp only[rangeL,h]
theorem Kvr{α σ:Type}{f:α→σ→Option σ}{x y:α}{s r:σ}(h1:rangeL f [x,y] s=some r)(h2:rangeL f [y,x] s=some r):rangeP f [x,y] s=some r:=by
 rw[Kld]
 intro m' hm
 have hl:=hm.length_eq
 match m',hl with
 | [a,b],_=>
  have ha:a=x∨a=y:=by have:=hm.mem_iff.1 (mCs .. : a∈[a,b]);simpa using this
  rcases ha with rfl | rfl
  ·have:=List.Perm.cons_inv hm
   rw[List.perm_singleton.1 this]
   exact h1
  have h3:[a,b].Perm [a,x]:=hm.trans (List.Perm.swap _ _ _)
  have:=List.Perm.cons_inv h3
  rw[List.perm_singleton.1 this]
  exact h2
theorem Kvs{α σ:Type}{f:α→σ→Option σ}{s:σ}:rangeP f [] s=some s:=by
 rw[Kld]
 intro m' hm
 rw[List.perm_nil.1 hm]
 rfl
theorem Kvt{α:Type}{l:List α}{i j:Nat}(h1:i≤j)(h2:j≤l.length):subZ l (i:Int) (j:Int)=some ((l.take j).drop i):=by
 unfold subZ
 rw[dT (show(0:Int)≤i by omega),dT (show(i:Int)≤j by omega),dT (show(j:Int)≤(l.length:Int) by omega)]
 rfl
theorem Kvu{α:Type}{l:List α}{i:Nat}{x:α}(h:l[i]?=some x):getZ l (i:Int)=some x:=by rw[getZ_cast];exact h
theorem Kvv{α:Type}{l:List α}{i:Int}{j:Nat}{x:α}(hi:i=(j:Int))(h:l[j]?=some x):getZ l i=some x:=by subst hi;exact Kvu h
end Go.Gk
namespace Go.Gk
theorem Kuq{n:Int}(h1 : -9223372036854775808≤n)(h2:n≤9223372036854775807):wi n=n:=w64 ⟨h1,h2⟩
theorem Kur{α σ:Type}{f:Nat→α→σ→Option σ}(n:Nat)(I:Nat→σ→Prop):∀ (l:List α) (i:Nat) (s:σ),i+l.length≤n→I i s→(∀ j x s,j<n→I j s→x∈l→∃ s',f j x s=some s'∧I (j+1) s')→∃ r,rangeF f i l s=some r∧I (i+l.length) r
 | [],i,s,_,h,_=>⟨s,rfl,h⟩
 | x :: l,i,s,hn,h,st=>by
  simp only[List.length_cons] at hn
  obtain⟨s',h1,h2⟩:=st i x s (by omega) h (mCs)
  obtain⟨r,h3,h4⟩:=Kur n I l (i+1) s' (by omega) h2 fun j y s hj hI hy=>st j y s hj hI (mCo _ hy)
  refine⟨r,by simp only[rangeF,h1,bi_some,h3],?_⟩
  rw[List.length_cons,show i+(l.length+1)=i+1+l.length by omega]
  exact h4
theorem Kus(x n:Int)(hn:1≤n)(hn2:n≤4611686018427387904):∃ r,0≤r∧r<n∧Kwt x n=some r:=by
 have h1:x.tmod n<n:=Int.tmod_lt_of_pos x (by omega)
 have h2 : -n<x.tmod n:=by
  have:=Int.tmod_lt_of_pos (-x) (show 0<n by omega)
  rw[Int.neg_tmod] at this
  omega
 unfold Kwt remZ
 rw[dF (show ¬ n<1 by omega),dF (show ¬ n=0 by omega)]
 simp only[cond_false,bi_some]
 by_cases h:x.tmod n<0
 ·rw[dT h]
  exact⟨x.tmod n+n,by omega,by omega,by simp only[cond_true,bi_some];rw[Kuq (by omega) (by omega)]⟩
 rw[dF h]
 exact⟨x.tmod n,by omega,h1,rfl⟩
theorem Kut(l:List Int)(a n:Int)(hl:l.length≤9223372036854775807)(h0:0≤a)(h1:a<4611686018427387904)(hn:1≤n)(hn2:n≤4611686018427387904) :
  ∃ r,0≤r∧r<n∧Kwu ⟨l,a⟩ n=some (r,⟨l,a+1⟩):=by
 unfold Kwu
 have hw:wi (a+1)=a+1:=Kuq (by omega) (by omega)
 have hw1:wi (a+1 - 1)=a:=by rw[Kuq (by omega) (by omega)];omega
 simp only[hw,hw1]
 by_cases hne:l.length=0
 ·obtain⟨r,r0,r1,hr⟩:=Kus (wi ((a+1) * 7919)) n hn hn2
  exact⟨r,r0,r1,by simp[hne,hr]⟩
 ·have hk:a.toNat % l.length<l.length:=Nat.mod_lt _ (by omega)
  have hkk:a.tmod (l.length:Int)=((a.toNat % l.length:Nat):Int):=by
   rw[Int.tmod_eq_emod_of_nonneg h0,Int.natCast_emod,Int.toNat_of_nonneg h0]
  have hne':¬ (l.length:Int)=0:=by omega
  obtain⟨r1,_,_,e1⟩:=Kus l[a.toNat % l.length] 1073741824 (by decide) (by decide)
  obtain⟨r,r0,r1,hr⟩:=Kus (wi (r1+wi (wi (a.tdiv (l.length:Int)) * wi (7919+((a.toNat % l.length:Nat):Int))))) n hn hn2
  refine⟨r,r0,r1,?_⟩
  have:((l.length:Int)==0)=false:=by simpa using hne'
  rw[this]
  simp only[cond_false,remZ,divZ,decide_eq_false hne',bi_some,hkk,getZ_cast,List.getElem?_eq_getElem hk,e1]
  rw[show IntKind.i64.wrap (a.tdiv (l.length:Int))=wi (a.tdiv (l.length:Int)) from rfl,hr]
  rfl
theorem Kuu(l:List Int)(a n:Int)(hl:l.length≤9223372036854775807)(h0:0≤a)(h1:a<4611686018427387904)(hn:1≤n)(hn2:n≤4611686018427387904) :
  ∃ b,Kwv ⟨l,a⟩ n=some (b,⟨l,a+1⟩):=by
 obtain⟨r,_,_,h⟩:=Kut l a n hl h0 h1 hn hn2
 exact⟨_,by unfold Kwv;rw[h];rfl⟩
theorem Kuv{α:Type}(xs:List α){r:Int}(h0:0≤r)(h1:r<xs.length):∃ x,x∈xs∧getZ xs r=some x:=by
 obtain⟨k,rfl⟩:=Int.eq_ofNat_of_zero_le h0
 exact⟨xs[k],List.getElem_mem _,by rw[getZ_cast,gGe (by omega)]⟩
theorem Kuw(l:List Int)(a:Int)(xs:List Int)(hl:l.length≤9223372036854775807)(h0:0≤a)(h1:a<4611686018427387904)(hn:1≤xs.length)(hn2:xs.length≤1000) :
  ∃ x,x∈xs∧Kwx ⟨l,a⟩ xs=some (x,⟨l,a+1⟩):=by
 obtain⟨r,r0,r1,h⟩:=Kut l a xs.length hl h0 h1 (by omega) (by omega)
 obtain⟨x,hx,e⟩:=Kuv xs r0 r1
 exact⟨x,hx,by unfold Kwx;rw[h];simp only[bi_some,e]⟩
theorem Kux{α:Type}{a b:List α}(h:a.length+b.length≤4294967296):apd a b=some (a++b):=by unfold apd;rw[Nat.ble_eq_true_of_le h];rfl
def Dr{α:Type}(l:List Int)(a:Int)(n:Int)(m:Option (α×Kwe))(p:α→Prop):Prop:=∃ x a',p x∧a≤a'∧a'≤a+n∧m=some (x,⟨l,a'⟩)
theorem Kuy(l:List Int)(a lo hi:Int)(hl:l.length≤9223372036854775807)(h0:0≤a)(h1:a<4611686018427387904)(h2:lo≤hi)(h3 : -1000000000≤lo)(h4:hi≤1000000000) :
  ∃ r,lo≤r∧r≤hi∧Kww ⟨l,a⟩ lo hi=some (r,⟨l,a+1⟩):=by
 unfold Kww
 have w1:wi (hi - lo)=hi - lo:=Kuq (by omega) (by omega)
 have w2:wi (hi - lo+1)=hi - lo+1:=Kuq (by omega) (by omega)
 obtain⟨r,r0,r1,hr⟩:=Kut l a (hi - lo+1) hl h0 h1 (by omega) (by omega)
 refine⟨lo+r,by omega,by omega,?_⟩
 rw[dF (show ¬ hi<lo by omega),w1,w2,hr]
 simp only[cond_false,bi_some]
 rw[Kuq (by omega) (by omega)]
theorem oddD(l:List Int)(a lo hi:Int)(hl:l.length≤9223372036854775807)(h0:0≤a)(h1:a<4611686018427370000)(h2:lo≤hi)(h3 : -1000000000≤lo)(h4:hi≤1000000000):Dr l a 5 (Kwz ⟨l,a⟩ lo hi) fun _=>True:=by
 obtain⟨f,hf⟩:=Kuu l a 12 hl (by omega) (by omega) (by decide) (by decide)
 unfold Kwz Dr
 rw[hf]
 simp only[bi_some]
 cases f with
 | true=>
  obtain⟨x,_,hx⟩:=Kuw l (a+1) [wi (lo - 1),wi (hi+1),lo,hi,-1099511627776,1099511627776] hl (by omega) (by omega) (by simp) (by simp)
  simp only[cond_true,hx,bi_some]
  refine⟨_,_,?_,?_,?_,rfl⟩;exact trivial;omega;omega
 | false=>
  obtain⟨x,_,_,hx⟩:=Kuy l (a+1) lo hi hl (by omega) (by omega) h2 h3 h4
  simp only[cond_false,hx,bi_some]
  refine⟨_,_,?_,?_,?_,rfl⟩;exact trivial;omega;omega
theorem Kuz{α σ ρ:Type}{f g:Nat→α→σ→Option (LS σ ρ)}:∀ (l:List α) (i:Nat) (s:σ),(∀ j x s,x∈l→f j x s=g j x s)→rangeM f i l s=rangeM g i l s
 | [],i,s,_=>rfl
 | x :: l,i,s,h=>by
  simp only[rangeM,h i x s List.mem_cons_self]
  cases g i x s with
  | none=>rfl
  | some y=>
   cases y with
   | out r=>rfl
   | go s'=>exact Kuz l (i+1) s' fun j y s hy=>h j y s (mCo _ hy)
theorem Kva{α ρ:Type}{f:Nat→α→Unit→Option (LS Unit ρ)}:∀ (l:List α) (i:Nat),(∀ j x,j<i+l.length→x∈l→∃ y,f j x ()=some y)→∃ r,rangeM f i l ()=some r
 | [],i,_=>⟨_,rfl⟩
 | x :: l,i,h=>by
  obtain⟨y,hy⟩:=h i x (by simp) mCs
  simp only[rangeM,hy]
  cases y with
  | out r=>exact⟨_,rfl⟩
  | go s'=>exact Kva l (i+1) fun j y hj hy=>h j y (by simp only[List.length_cons];omega) (mCo _ hy)
theorem Kvb{α ρ:Type}{f:Nat→α→Unit→Option (LS Unit ρ)}(p:α→Bool)(v:ρ):∀ (l:List α) (i:Nat),(∀ j x,l[j]?=some x→f (i+j) x ()=some (if p x then .go () else .out v))→rangeM f i l ()=some (if l.all p then .go () else .out v)
 | [],i,_=>rfl
 | x :: l,i,h=>by
  have h0:=h 0 x (by simp)
  have ih:=Kvb p v l (i+1) fun j y hy=>by rw[show i+1+j=i+(j+1) by omega];exact h (j+1) y (by simpa using hy)
  rw[Nat.add_zero] at h0
  simp only[rangeM,h0,List.all_cons]
  by_cases hp:p x=true
  ·simp only[hp,if_true,Bool.true_and];exact ih
  simp only[Bool.not_eq_true] at hp;simp[hp]
theorem Kvc{α ρ:Type}{f:Nat→Unit→Option (LS Unit ρ)}(p:α→Bool)(v:ρ)(s:List α)(h:∀ i x,s[i]?=some x→f i ()=some (if p x then .go () else .out v)):rangeI f (s.length:Int) ()=some (if s.all p then .go () else .out v):=by
 have key:∀ (l:List α) (i:Nat),(∀ j x,l[j]?=some x→f (i+j) ()=some (if p x then .go () else .out v))→rangeM (fun i (_:Unit) s=>f i s) i (List.replicate l.length ()) ()=some (if l.all p then .go () else .out v):=by
  intro l
  induction l with
  | nil=>intro i _;rfl
  | cons x l ih0=>
   intro i h
   have h0:=h 0 x (by simp)
   have ih:=ih0 (i+1) fun j y hy=>by rw[show i+1+j=i+(j+1) by omega];exact h (j+1) y (by simpa using hy)
   rw[Nat.add_zero] at h0
   simp only[List.length_cons,List.replicate_succ,rangeM,h0,List.all_cons]
   by_cases hp:p x=true
   ·simp only[hp,if_true,Bool.true_and];exact ih
   simp only[Bool.not_eq_true] at hp;simp[hp]
 unfold rangeI
 rw[Int.toNat_natCast]
 exact key s 0 fun j x hx=>by rw[Nat.zero_add];exact h j x hx
theorem Kvd(n a b:Int):∃ c,Kxf n a b=some c∧Kyq n a b=some (!c):=by
 refine⟨_,rfl,?_⟩
 unfold Kyq
 congr 1
 rw[Bool.eq_iff_iff]
 simp
end Go.Gk
namespace Go.Gk
theorem Kbs{σ ρ:Type}{f:σ→Option (LS σ ρ)}{k:Nat}{s:σ}(s':σ)(h:f s=some (.go s')):loopM f (k+1) s=loopM f k s':=by simp only[loopM,h]
theorem Kbt{σ ρ:Type}{f:σ→Option (LS σ ρ)}{k:Nat}{s:σ}(r:ρ)(h:f s=some (.out r)):loopM f (k+1) s=some r:=by simp only[loopM,h]
theorem Kbu{α β:Type}{x:Option α}{f:α→Option β}{v:α}(h:x=some v):bi x f=f v:=by rw[h];rfl
theorem Kbv(x:Str):((x:Str)==[])=decide (x.length=0):=by cases x<;>rfl
def Ok{α:Type}(m:Option α)(Q:α→Prop):Prop:=∃ r,m=some r∧Q r
def Two{α β:Type}(m:Option α)(n:Option β)(R:α→β→Prop):Prop:=∃ r q,m=some r∧n=some q∧R r q
section
variable{α β γ δ σ τ ρ ρ':Type}
theorem Kbw{r:α}{Q:α→Prop}(h:Q r):Ok (some r) Q:=⟨r,rfl,h⟩
theorem Kbx{m:Option α}{g:α→Option β}{P:α→Prop}{Q:β→Prop}(h:Ok m P)(k:∀ r,P r→Ok (g r) Q):Ok (bi m g) Q:=by
 obtain⟨r,rfl,hr⟩:=h
 exact k r hr
theorem Kby{m:Option α}{g:α→Option β}{r:α}{Q:β→Prop}(h:m=some r)(k:Ok (g r) Q):Ok (bi m g) Q:=by subst h;exact k
theorem Kbz{m:Option α}{P Q:α→Prop}(h:Ok m P)(k:∀ r,P r→Q r):Ok m Q:=let ⟨r,h1,h2⟩:=h;⟨r,h1,k r h2⟩
theorem Kca{b:Bool}{m n:Option α}{Q:α→Prop}(h1:b=true→Ok m Q)(h2:b=false→Ok n Q):Ok (bif b then m else n) Q:=by
 cases b with
 | true=>exact h1 rfl
 | false=>exact h2 rfl
theorem Kcb{b:Bool}{m:Option α}{Q:α→Prop}(hb:b=true)(h:Ok m Q):Ok (gd b m) Q:=by subst hb;exact h
theorem Kcc{f:Nat→α→σ→Option σ}{l:List α}{s:σ}(I:Nat→σ→Prop)(h0:I 0 s)(step:∀ (i:Nat) (x:α) (s:σ),l[i]?=some x→I i s→Ok (f i x s) (I (i+1))):Ok (rangeF f 0 l s) (I l.length):=by
 obtain⟨r,h1,h2⟩:=Kvg l I step l 0 s rfl h0
 exact⟨r,h1,by simpa using h2⟩
theorem Kcd{f:Nat→σ→Option σ}{n:Int}{s:σ}(I:Nat→σ→Prop)(h0:I 0 s)(step:∀ (i:Nat) (s:σ),i<n.toNat→I i s→Ok (f i s) (I (i+1))):Ok (rangeG f n s) (I n.toNat):=Kvi I h0 step
theorem Kce{f:Nat→α→σ→Option (LS σ ρ)}{l:List α}{s:σ}(I:Nat→σ→Prop)(Q:ρ→Prop)(h0:I 0 s)
  (step:∀ (i:Nat) (x:α) (s:σ),l[i]?=some x→I i s→Ok (f i x s) fun r=>match r with | .go s'=>I (i+1) s' | .out q=>Q q):Ok (rangeM f 0 l s) fun r=>match r with | .go s'=>I l.length s' | .out q=>Q q:=by
 rcases Kvk l I Q (fun i x s hx hi=>by
  obtain⟨r,h1,h2⟩:=step i x s hx hi
  cases r with
  | go s'=>exact .inl ⟨s',h1,h2⟩
  | out q=>exact .inr ⟨q,h1,h2⟩) l 0 s rfl h0 with⟨s',h1,h2⟩ | ⟨q,h1,h2⟩
 ·exact⟨_,h1,by simpa using h2⟩
 ·exact⟨_,h1,h2⟩
theorem Kcf{f:σ→Option (LS σ ρ)}{k:Nat}{s:σ}(I:σ→Prop)(μ:σ→Nat)(Q:ρ→Prop)(h0:I s)(hk:μ s<k)(step:∀ s,I s→Ok (f s) fun r=>match r with | .go s'=>I s'∧μ s'<μ s | .out q=>Q q):Ok (loopM f k s) Q:=
 Kve I μ Q (fun s hi=>by
  obtain⟨r,h1,h2⟩:=step s hi
  cases r with
  | go s'=>exact .inr ⟨s',h1,h2.1,h2.2⟩
  | out q=>exact .inl ⟨q,h1,h2⟩) k s hk h0
theorem Kcg{l:List α}{i:Int}{j:Nat}{x:α}{g:α→Option β}{Q:β→Prop}(hi:i=(j:Int))(h:l[j]?=some x)(k:Ok (g x) Q):Ok (bi (getZ l i) g) Q:=Kby (Kvv hi h) k
theorem Kch{a b:List α}{g:List α→Option β}{Q:β→Prop}(h:a.length+b.length≤4294967296)(k:Ok (g (a++b)) Q):Ok (bi (apd a b) g) Q:=Kby (Kux h) k
theorem Kci{r:α}{q:β}{R:α→β→Prop}(h:R r q):Two (some r) (some q) R:=⟨r,q,rfl,rfl,h⟩
theorem Kcj{m:Option α}{g:α→Option γ}{n:Option β}{P:α→Prop}{R:γ→β→Prop}(h:Ok m P)(k:∀ r,P r→Two (g r) n R):Two (bi m g) n R:=by
 obtain⟨r,rfl,hr⟩:=h
 exact k r hr
theorem Kck{m:Option α}{g:β→Option γ}{n:Option β}{P:β→Prop}{R:α→γ→Prop}(h:Ok n P)(k:∀ r,P r→Two m (g r) R):Two m (bi n g) R:=by
 obtain⟨r,rfl,hr⟩:=h
 exact k r hr
theorem Kcl{m:Option α}{g:α→Option γ}{n:Option β}{r:α}{R:γ→β→Prop}(h:m=some r)(k:Two (g r) n R):Two (bi m g) n R:=by subst h;exact k
theorem Kcm{m:Option α}{g:β→Option γ}{n:Option β}{r:β}{R:α→γ→Prop}(h:n=some r)(k:Two m (g r) R):Two m (bi n g) R:=by subst h;exact k
theorem Kcn{m:Option α}{n:Option β}{g:α→Option γ}{h:β→Option δ}{P:α→β→Prop}{R:γ→δ→Prop}(hm:Two m n P)(k:∀ r q,P r q→Two (g r) (h q) R):Two (bi m g) (bi n h) R:=by
 obtain⟨r,q,rfl,rfl,hr⟩:=hm
 exact k r q hr
theorem Kco{m:Option α}{n:Option β}{P R:α→β→Prop}(h:Two m n P)(k:∀ r q,P r q→R r q):Two m n R:=let ⟨r,q,h1,h2,h3⟩:=h;⟨r,q,h1,h2,k r q h3⟩
theorem Kcp{b c:Bool}{m m':Option α}{n n':Option β}{R:α→β→Prop}(hbc:b=c)(h1:b=true→Two m n R)(h2:b=false→Two m' n' R):Two (bif b then m else m') (bif c then n else n') R:=by
 subst hbc
 cases b with
 | true=>exact h1 rfl
 | false=>exact h2 rfl
theorem Kcq{b:Bool}{m m':Option α}{n:Option β}{R:α→β→Prop}(h1:b=true→Two m n R)(h2:b=false→Two m' n R):Two (bif b then m else m') n R:=by
 cases b with
 | true=>exact h1 rfl
 | false=>exact h2 rfl
theorem Kcr{b:Bool}{m:Option α}{n n':Option β}{R:α→β→Prop}(h1:b=true→Two m n R)(h2:b=false→Two m n' R):Two m (bif b then n else n') R:=by
 cases b with
 | true=>exact h1 rfl
 | false=>exact h2 rfl
theorem Kcs{m:Option α}{n:Option β}{P:α→Prop}{R:α→β→Prop}(h:Ok m P)(k:∀ r,P r→Ok n (R r)):Two m n R:=by
 obtain⟨r,h1,h2⟩:=h
 obtain⟨q,h3,h4⟩:=k r h2
 exact⟨r,q,h1,h3,h4⟩
def LSR(I:σ→τ→Prop)(Q:ρ→ρ'→Prop):LS σ ρ→LS τ ρ'→Prop
 | .go s,.go t=>I s t
 | .out r,.out q=>Q r q
 | _,_=>False
theorem Kct{f:Nat→α→σ→Option (LS σ ρ)}{g:Nat→α→τ→Option (LS τ ρ')}{l:List α}{s:σ}{t:τ}(I:Nat→σ→τ→Prop)(Q:ρ→ρ'→Prop)(h0:I 0 s t)
  (step:∀ (i:Nat) (x:α) (s:σ) (t:τ),l[i]?=some x→I i s t→Two (f i x s) (g i x t) (LSR (I (i+1)) Q)):Two (rangeM f 0 l s) (rangeM g 0 l t) (LSR (I l.length) Q):=by
 rcases Kvl l I Q (fun i x s t hx hi=>by
  obtain⟨r,q,h1,h2,h3⟩:=step i x s t hx hi
  cases r<;>cases q<;>first | exact h3.elim | exact .inl ⟨_,_,h1,h2,h3⟩ | exact .inr ⟨_,_,h1,h2,h3⟩) l 0 s t rfl h0 with⟨s',t',h1,h2,h3⟩ | ⟨r,q,h1,h2,h3⟩
 ·exact⟨_,_,h1,h2,by simpa [LSR] using h3⟩
 ·exact⟨_,_,h1,h2,h3⟩
theorem Kcu{f:Nat→α→σ→Option σ}{g:Nat→α→τ→Option τ}{l:List α}{s:σ}{t:τ}(I:Nat→σ→τ→Prop)(h0:I 0 s t)
  (step:∀ (i:Nat) (x:α) (s:σ) (t:τ),l[i]?=some x→I i s t→Two (f i x s) (g i x t) (I (i+1))):Two (rangeF f 0 l s) (rangeF g 0 l t) (I l.length):=by
 obtain⟨s',t',h1,h2,h3⟩:=Kvn l I (fun i x s t hx hi=>by
  obtain⟨r,q,h1,h2,h3⟩:=step i x s t hx hi
  exact⟨r,q,h1,h2,h3⟩) l 0 s t rfl h0
 exact⟨_,_,h1,h2,by simpa using h3⟩
theorem Kcv{m n:Option α}(h:Two m n fun r q=>r=q):∃ r,m=some r∧n=some r:=by
 obtain⟨r,q,h1,h2,rfl⟩:=h
 exact⟨r,h1,h2⟩
end
theorem Kcw(l:List Int)(a:Int)(xs:List Str)(hl:l.length≤9223372036854775807)(h0:0≤a)(h1:a<4611686018427387904)(hn:1≤xs.length)(hn2:xs.length≤1000) :
  ∃ x,x∈xs∧Kwy ⟨l,a⟩ xs=some (x,⟨l,a+1⟩):=by
 obtain⟨r,r0,r1,h⟩:=Kut l a xs.length hl h0 h1 (by omega) (by omega)
 obtain⟨x,hx,e⟩:=Kuv xs r0 r1
 exact⟨x,hx,by unfold Kwy;rw[h];simp only[bi_some,e]⟩
def At(l:List Int)(a b:Int)(s:Kwe):Prop:=s.L=l∧a≤s.v_at∧s.v_at≤b
theorem At.eq{l:List Int}{a b:Int}{s:Kwe}(h:At l a b s):s=⟨l,s.v_at⟩:=by rw[←h.1]
theorem At.up{l:List Int}{a b a' b':Int}{s:Kwe}(h:At l a b s)(h1:a'≤a)(h2:b≤b'):At l a' b' s:=⟨h.1,by have:=h.2.1;omega,by have:=h.2.2;omega⟩
theorem Kcx{l:List Int}{a b:Int}{s:Kwe}(h:At l a b s)(n:Int)(hl:l.length≤9223372036854775807)(h0:0≤a)(h1:b<4611686018427387904)(hn:1≤n)(hn2:n≤4611686018427387904) :
  Ok (Kwv s n) fun r=>At l (a+1) (b+1) r.2:=by
 obtain⟨e1,e2,e3⟩:=h
 obtain⟨c,hc⟩:=Kuu l s.v_at n hl (by omega) (by omega) hn hn2
 rw[←e1] at hc
 exact⟨_,hc,e1,by simp only;omega,by simp only;omega⟩
theorem Kcy{l:List Int}{a b:Int}{s:Kwe}(h:At l a b s)(xs:List Int)(hl:l.length≤9223372036854775807)(h0:0≤a)(h1:b<4611686018427387904)(hn:1≤xs.length)(hn2:xs.length≤1000) :
  Ok (Kwx s xs) fun r=>r.1∈xs∧At l (a+1) (b+1) r.2:=by
 obtain⟨e1,e2,e3⟩:=h
 obtain⟨c,hc,hp⟩:=Kuw l s.v_at xs hl (by omega) (by omega) hn hn2
 rw[←e1] at hp
 exact⟨_,hp,hc,e1,by simp only;omega,by simp only;omega⟩
theorem Kcz{l:List Int}{a b:Int}{s:Kwe}(h:At l a b s)(xs:List Str)(hl:l.length≤9223372036854775807)(h0:0≤a)(h1:b<4611686018427387904)(hn:1≤xs.length)(hn2:xs.length≤1000) :
  Ok (Kwy s xs) fun r=>r.1∈xs∧At l (a+1) (b+1) r.2:=by
 obtain⟨e1,e2,e3⟩:=h
 obtain⟨c,hc,hp⟩:=Kcw l s.v_at xs hl (by omega) (by omega) hn hn2
 rw[←e1] at hp
 exact⟨_,hp,hc,e1,by simp only;omega,by simp only;omega⟩
theorem Kda{l:List Int}{a b:Int}{s:Kwe}(h:At l a b s)(lo hi:Int)(hl:l.length≤9223372036854775807)(h0:0≤a)(h1:b<4611686018427387904)(h2:lo≤hi)(h3 : -1000000000≤lo)(h4:hi≤1000000000) :
  Ok (Kww s lo hi) fun r=>lo≤r.1∧r.1≤hi∧At l (a+1) (b+1) r.2:=by
 obtain⟨e1,e2,e3⟩:=h
 obtain⟨c,c1,c2,hp⟩:=Kuy l s.v_at lo hi hl (by omega) (by omega) h2 h3 h4
 rw[←e1] at hp
 exact⟨_,hp,c1,c2,e1,by simp only;omega,by simp only;omega⟩
theorem Kdb{l:List Int}{a b:Int}{s:Kwe}(h:At l a b s)(lo hi:Int)(hl:l.length≤9223372036854775807)(h0:0≤a)(h1:b<4611686018427370000)(h2:lo≤hi)(h3 : -1000000000≤lo)(h4:hi≤1000000000) :
  Ok (Kwz s lo hi) fun r=>At l a (b+5) r.2:=by
 obtain⟨e1,e2,e3⟩:=h
 obtain⟨c,a',_,c1,c2,hp⟩:=oddD l s.v_at lo hi hl (by omega) (by omega) h2 h3 h4
 rw[←e1] at hp
 exact⟨_,hp,e1,by simp only;omega,by simp only;omega⟩
end Go.Gk
namespace Go.Gk
theorem Kak(n a b:Int):Kym n a b=some (decide (a≤n∧n≤b)):=by
 unfold Kym
 congr 1
 rw[Bool.eq_iff_iff]
 simp
theorem u64N(x:Int):0≤IntKind.u64.wrap x:=Int.emod_nonneg _ (by decide)
theorem u64L(x:Int):IntKind.u64.wrap x<18446744073709551616:=Int.emod_lt_of_pos _ (by decide)
theorem Kal(p:UInt8→Bool):∀ l:Str,l.dropWhile p=[] ↔ ∀ x∈l,p x=true
 | []=>by simp
 | x :: r=>by
  rw[List.dropWhile_cons]
  cases h:p x with
  | true=>simp[h,Kal p r]
  | false=>simp[h]
theorem Kam(t cs:Str):(Lib.trimS t cs==[])=t.all fun c=>cs.contains c:=by
 rw[Bool.eq_iff_iff,beq_iff_eq,lAe]
 unfold Lib.trimS Lib.trimLeftS
 rw[Kal]
 unfold Lib.trimRightS
 constructor
 ·intro h x hx
  have hs:t.reverse=t.reverse.takeWhile (cs.contains ·)++t.reverse.dropWhile (cs.contains ·):=(List.takeWhile_append_dropWhile).symm
  have hx':x∈t.reverse:=List.mem_reverse.2 hx
  rw[hs,List.mem_append] at hx'
  rcases hx' with hx' | hx'
  ·have:=lAe.1 (List.all_takeWhile (p:=(cs.contains ·)) (l:=t.reverse)) x hx'
   exact this
  exact h x (List.mem_reverse.2 hx')
 intro h x hx
 have:=(List.dropWhile_sublist (cs.contains ·)).subset (List.mem_reverse.1 hx)
 exact h x (List.mem_reverse.1 this)
def dgs:Str:=[48,49,50,51,52,53,54,55,56,57]
def isD(c:UInt8):Bool:=decide (48≤c.toNat)&&decide (c.toNat≤57)
theorem Kan(c:UInt8):dgs.contains c=isD c:=by
 have key:∀ n:Fin 256,dgs.contains (UInt8.ofNat n.val)=isD (UInt8.ofNat n.val):=by decide +kernel
 have:=key ⟨c.toNat,c.toNat_lt⟩
 simpa only[UInt8.ofNat_toNat] using this
theorem Kao{c:UInt8}(h:isD c=true):∃ d,d<10∧Lib.digitVal c=some d∧c=UInt8.ofNat (48+d)∧(c==45)=false∧(c==43)=false∧(d=0 ↔ c=48):=by
 have key:∀ n:Fin 256,isD (UInt8.ofNat n.val)=true→(UInt8.ofNat n.val).toNat - 48<10∧Lib.digitVal (UInt8.ofNat n.val)=some ((UInt8.ofNat n.val).toNat - 48)∧UInt8.ofNat n.val=UInt8.ofNat (48+((UInt8.ofNat n.val).toNat - 48))∧(UInt8.ofNat n.val==45)=false∧(UInt8.ofNat n.val==43)=false∧((UInt8.ofNat n.val).toNat - 48=0 ↔ UInt8.ofNat n.val=48):=by decide +kernel
 have:=key ⟨c.toNat,c.toNat_lt⟩
 simp only[UInt8.ofNat_toNat] at this
 exact⟨_,this h⟩
theorem Kap:∀ (t:Str) (acc:Nat),t.all isD=true→∃ n,Lib.decFrom acc t=some n∧n<(acc+1) * 10 ^ t.length∧(1≤acc→Lib.decDigits n=Lib.decDigits acc++t)∧acc≤n
 | [],acc,_=>⟨acc,rfl,by simp,fun _=>by simp,Nat.le_refl _⟩
 | c :: t,acc,h=>by
  rw[List.all_cons,Bool.and_eq_true] at h
  obtain⟨d,d1,d2,d3,_⟩:=Kao h.1
  obtain⟨n,n1,n2,n3,n4⟩:=Kap t (acc * 10+d) h.2
  refine⟨n,by simp only[Lib.decFrom,d2,n1],nLl n2 ?_,fun ha=>?_,by omega⟩
  ·rw[List.length_cons,Nat.pow_succ,Nat.mul_comm (10 ^ t.length),←Nat.mul_assoc]
   exact Nat.mul_le_mul_right _ (by omega)
  rw[n3 (by omega)]
  have:Lib.decDigits (acc * 10+d)=Lib.decDigits acc++[c]:=by
   rw[Lib.decDigits,dif_neg (by omega),show(acc * 10+d) / 10=acc by omega,show(acc * 10+d) % 10=d by omega,d3]
  rw[this,List.append_assoc];rfl
theorem Kaq:∀ n:Nat,1≤n→(Lib.decDigits n)[0]?≠some 48:=by
 intro n
 induction n using Nat.strongRecOn with
 | _ n ih=>
  intro h
  by_cases h10:n<10
  ·rw[Lib.decDigits,dif_pos h10]
   have:∀ m:Fin 10,1≤m.val→([UInt8.ofNat (48+m.val)]:Str)[0]?≠some 48:=by decide
   exact this ⟨n,h10⟩ h
  rw[Lib.decDigits,dif_neg h10]
  have hne:Lib.decDigits (n / 10)≠[]:=by
   rw[Lib.decDigits];split
   ·simp
   simp
  rw[gAl (List.length_pos_iff.2 hne)]
  exact ih (n / 10) (by omega) (by omega)
theorem Kar{t:Str}(hn:t≠[])(h:t.all isD=true):∃ n:Nat,Lib.decNat t=some n∧n<10 ^ t.length∧(Lib.decDigits n=t ↔ (t.length=1∨t[0]?≠some 48))∧(n=0→t[0]?=some 48):=by
 match t,hn,h with
 | c :: r,_,h=>
  rw[List.all_cons,Bool.and_eq_true] at h
  obtain⟨d,d1,d2,d3,_,_,d6⟩:=Kao h.1
  obtain⟨n,n1,n2,n3,n4⟩:=Kap r d h.2
  have e0:Lib.decNat (c :: r)=some n:=by
   unfold Lib.decNat
   rw[if_neg (by simp)]
   simp only[Lib.decFrom,d2,Nat.zero_mul,Nat.zero_add]
   exact n1
  have hlt:n<10 ^ (c :: r).length:=by
   rw[List.length_cons,Nat.pow_succ,Nat.mul_comm]
   exact nLl n2 (Nat.mul_le_mul_right _ (by omega))
  by_cases hd:d=0
  ·have hc:=d6.1 hd
   subst hc
   subst hd
   refine⟨n,e0,hlt,?_,fun _=>rfl⟩
   match r with
   | []=>
    simp only[Lib.decFrom] at n1
    cases n1
    exact⟨fun _=>.inl rfl,fun _=>by decide +kernel⟩
   | x :: r=>
    refine⟨fun he=>?_,fun h=>?_⟩
    ·exfalso
     by_cases hn0:n=0
     ·subst hn0
      have:=congrArg List.length he
      rw[show Lib.decDigits 0=[48] by decide +kernel] at this
      simp at this
     have:=Kaq n (by omega)
     rw[he] at this
     exact this rfl
    rcases h with h | h
    ·simp at h
    exact absurd rfl h
  refine⟨n,e0,hlt,?_,fun h0=>by omega⟩
  have:Lib.decDigits n=c :: r:=by
   rw[n3 (by omega),Lib.decDigits,dif_pos d1,←d3];rfl
  refine⟨fun _=>.inr ?_,fun _=>this⟩
  intro h48
  have:c=48:=by simpa using h48
  exact hd (d6.2 this)
theorem Kas(u:Nat):Lib.itoa (u:Int)=Lib.decDigits u:=by unfold Lib.itoa;rw[if_neg (by omega)];simp
theorem Kat(u:Nat)(h:1≤u):Lib.itoa (-(u:Int))=45 :: Lib.decDigits u:=by unfold Lib.itoa;rw[if_pos (by omega)];simp
def numB(s:Str)(most:Nat):Bool:=!(Lib.trimPrefix s [45]==[])&&(decide ((Lib.trimPrefix s [45]).length≤most)&&((Lib.trimPrefix s [45]).all isD&&!(((Lib.trimPrefix s [45])[0]?==some 48)&&!(s==[48]))))
def numV(s:Str):Int:=(Lib.atoi s).getD 0
theorem Lky(s:Str):(Lib.trimPrefix s [45]=s∧s[0]?≠some 45)∨s=45 :: Lib.trimPrefix s [45]:=by
 unfold Lib.trimPrefix
 match s with
 | []=>exact .inl ⟨rfl,by simp⟩
 | c :: r=>
  by_cases hc:c=45
  ·subst hc;exact .inr rfl
  refine .inl ⟨?_,by simpa using hc⟩
  simp[Lib.hasPrefix,hc]
  intro h
  exact absurd h.symm hc
theorem Kau{s:Str}{m:Nat}(hm:m≤9)(hne:Lib.trimPrefix s [45]≠[])(hl:(Lib.trimPrefix s [45]).length≤m)(hd:(Lib.trimPrefix s [45]).all isD=true) :
  ∃ n:Int,Lib.atoi s=some n∧-(10 ^ m:Nat)<n∧n<(10 ^ m:Nat)∧(Lib.itoa n=s ↔ ¬ ((Lib.trimPrefix s [45])[0]?=some 48∧s≠[48])):=by
 obtain⟨n,n1,n2,n3,n4⟩:=Kar hne hd
 have hp:n<10 ^ m:=nLl n2 (Nat.pow_le_pow_right (by decide) hl)
 rcases Lky s with⟨h1,h2⟩ | h1
 ·rw[h1] at hne hl hd n1 n3 n4 ⊢
  have ha:Lib.atoi s=some (n:Int):=by
   match s,hne,hd,h2,n1 with
   | c :: r,_,hd,_,n1=>
    rw[List.all_cons,Bool.and_eq_true] at hd
    obtain⟨_,_,_,_,e1,e2,_⟩:=Kao hd.1
    simp only[Lib.atoi,e1,e2,n1]
    rfl
  refine⟨n,ha,by omega,by omega,?_⟩
  rw[Kas,n3]
  constructor
  ·rintro(h | h) ⟨h0,h48⟩
   ·match s,h with
    | [c],_=>simp at h0;subst h0;exact h48 rfl
   ·exact h h0
  ·intro h
   by_cases h0:s[0]?=some 48
   ·have:s=[48]:=by
     by_cases hs:s=[48]
     ·exact hs
     ·exact absurd ⟨h0,hs⟩ h
    rw[this];exact .inl rfl
   ·exact .inr h0
 ·generalize Lib.trimPrefix s [45]=t at *
  subst h1
  have ha:Lib.atoi (45 :: t)=some (-(n:Int)):=by
   simp only[Lib.atoi,n1]
   rfl
  refine⟨-(n:Int),ha,by omega,by omega,?_⟩
  by_cases hn0:n=0
  ·subst hn0
   refine⟨fun h=>?_,fun h=>absurd ⟨n4 rfl,by simp⟩ h⟩
   rw[show Lib.itoa (-((0:Nat):Int))=[48] by decide +kernel] at h
   simp at h
  ·rw[Kat n (by omega)]
   constructor
   ·intro h
    rintro⟨h0,_⟩
    have:Lib.decDigits n=t:=by simpa using h
    have h2:=Kaq n (by omega)
    rw[this] at h2
    exact h2 h0
   ·intro h
    have:t[0]?≠some 48:=fun h0=>h ⟨h0,by simp⟩
    rw[n3.2 (.inr this)]
theorem Kav{s:Str}{m:Nat}(hm:m≤9)(hl:(Lib.trimPrefix s [45]).length≤m){n:Int}(h:Lib.atoi s=some n):Ktl s=some n:=by
 unfold Ktl
 have:s.length≤18:=by
  rcases Lky s with⟨h1,_⟩ | h1
  ·rw[h1] at hl;omega
  have:=congrArg List.length h1;simp at this;omega
 rw[Nat.ble_eq_true_of_le this]
 exact h
theorem Kaw(s cs:Str)(hs:s.length≤1000000)(hc:(Nat.blt cs.length 4294967281&&cs.all fun b=>Nat.blt b.toNat 128)=true):Kyn s cs=some (s.all fun c=>cs.contains c):=by
 unfold Kyn Ktd
 rw[Nat.ble_eq_true_of_le (show s.length≤1099511627776 by omega),hc]
 show some (Lib.trimS s cs==[])=_
 rw[Kam]
def dLoop(y1:Str)(s12:Int):Option (LS Int (Unit ⊕ (Int×Bool))):=bif decide ((s12:Int)<(y1.length:Int)) then(bi (getZ y1 s12) fun c22=>bi (bif decide (((c22.toNat:Int):Int)<48) then(some true) else(bi (getZ y1 s12) fun c28=>some (decide (((c28.toNat:Int):Int)>57)))) fun q24=>bif q24 then(bi (some (0,false)) fun v=>some (.out (.inr v))) else(some (.go (wi (s12+1))))) else(some (.out (.inl ())))
theorem Kax(y:Str)(hl:y.length≤100):∀ (n k i:Nat),n=y.length - i→i≤y.length→n<k→loopM (dLoop y) k (i:Int)=some (if (y.drop i).all isD then .inl () else .inr (0,false))
 | n,0,i,_,_,h=>absurd h (Nat.not_lt_zero _)
 | n,k+1,i,hn,hi,hk=>by
  by_cases he:i<y.length
  ·have hg:getZ y (i:Int)=some y[i]:=Kvu (gGe he)
   have hdr:y.drop i=y[i] :: y.drop (i+1):=List.drop_eq_getElem_cons he
   have hstep:dLoop y (i:Int)=some (if isD y[i] then .go ((i+1:Nat):Int) else .out (.inr (0,false))):=by
    unfold dLoop
    rw[dT (show(i:Int)<(y.length:Int) by omega)]
    simp only[cond_true,hg,bi_some]
    unfold isD
    by_cases h1:48≤y[i].toNat
    ·rw[dF (show ¬ (y[i].toNat:Int)<48 by omega),dT h1]
     simp only[cond_false,bi_some,Bool.true_and]
     by_cases h2:y[i].toNat≤57
     ·rw[dF (show ¬ (y[i].toNat:Int)>57 by omega),dT h2]
      simp only[cond_false,if_true]
      rw[Kuq (by omega) (by omega)]
      rfl
     rw[dT (show(y[i].toNat:Int)>57 by omega),dF h2]
     rfl
    rw[dT (show(y[i].toNat:Int)<48 by omega),dF h1]
    rfl
   rw[hdr,List.all_cons]
   simp only[loopM,hstep]
   cases hD:isD y[i] with
   | false=>rfl
   | true=>
    simp only[if_true,Bool.true_and]
    exact Kax y hl (n - 1) k (i+1) (by omega) (by omega) (by omega)
  have:y.drop i=[]:=List.drop_eq_nil_of_le (by omega)
  rw[this]
  simp only[loopM]
  unfold dLoop
  rw[dF (show ¬ (i:Int)<(y.length:Int) by omega)]
  rfl
theorem Kay(k:Nat)(s:Str)(most:Int):Kzo k s most=bi (Kta s [45]) fun y1=>bi (bif (((y1:Str)==[])||(decide (((y1.length:Int):Int)>most))) then(some true) else(bi (getZ y1 0) fun c7=>some ((((c7.toNat:Int):Int)==48)&&(!((s:Str)==[48]))))) fun q3=>bif q3 then(some (0,false)) else(bi (loopM (dLoop y1) k 0) fun q=>orI q fun a16=>bi (Ktl s) fun y35=>some (y35,true)):=rfl
theorem numP(k:Nat)(hk:100<k)(s:Str)(m:Nat)(hm:m≤9):∃ n,Kzo k s (m:Int)=some (n,numB s m)∧(numB s m=true→n=numV s):=by
 rw[Kay]
 unfold numB
 rw[show Kta s [45]=some (Lib.trimPrefix s [45]) from rfl,bi_some]
 cases h1:(Lib.trimPrefix s [45]==[]) with
 | true=>exact⟨0,rfl,fun h=>by simp at h⟩
 | false=>
  have hne:Lib.trimPrefix s [45]≠[]:=by simpa using h1
  by_cases hl:(Lib.trimPrefix s [45]).length≤m
  ·rw[dF (show ¬ ((Lib.trimPrefix s [45]).length:Int)>(m:Int) by omega),dT hl]
   simp only[Bool.or_self,cond_false]
   have h0:∃ c,(Lib.trimPrefix s [45])[0]?=some c:=⟨_,gGe (List.length_pos_iff.2 hne)⟩
   obtain⟨c,hc⟩:=h0
   rw[show(0:Int)=((0:Nat):Int) from rfl,Kvu hc,bi_some,bi_some,hc]
   have hc48:(((c.toNat:Int))==48)=((some c:Option UInt8)==some 48):=by
    rw[Bool.eq_iff_iff]
    simp only[beq_iff_eq,Option.some.injEq]
    constructor
    ·intro h;exact UInt8.toNat_inj.1 (by show c.toNat=48;omega)
    intro h;subst h;rfl
   rw[hc48]
   cases h3:((some c:Option UInt8)==some 48&&!(s==[48])) with
   | true=>exact⟨0,by simp,fun h=>by simp at h⟩
   | false=>
    simp only[cond_false]
    rw[Kax (Lib.trimPrefix s [45]) (by omega) _ k 0 rfl (Nat.zero_le _) (by omega),List.drop_zero]
    cases h2:(Lib.trimPrefix s [45]).all isD with
    | false=>exact⟨0,rfl,fun h=>by simp at h⟩
    | true=>
     obtain⟨n,n1,n2,n3,n4⟩:=Kau hm hne hl h2
     refine⟨n,?_,fun _=>by simp[numV,n1]⟩
     simp only[if_true,bi_some,orI,Kav hm hl n1]
     rfl
  rw[dT (show((Lib.trimPrefix s [45]).length:Int)>(m:Int) by omega),dF hl]
  exact⟨0,rfl,fun h=>by simp at h⟩
theorem Kaz{s:Str}{m:Nat}(hm:m≤9)(h:numB s m=true):Lib.itoa (numV s)=s∧-(10 ^ m:Nat)<numV s∧numV s<(10 ^ m:Nat):=by
 unfold numB at h
 simp only[Bool.and_eq_true,Bool.not_eq_true',beq_eq_false_iff_ne,decide_eq_true_eq] at h
 obtain⟨h1,h2,h3,h4⟩:=h
 obtain⟨n,n1,n2,n3,n4⟩:=Kau hm h1 h2 h3
 have hv:numV s=n:=by simp[numV,n1]
 rw[hv]
 refine⟨n4.2 fun ⟨a,b⟩=>?_,n2,n3⟩
 simp[a,b] at h4
def lows:Str:=[97,98,99,100,101,102,103,104,105,106,107,108,109,110,111,112,113,114,115,116,117,118,119,120,121,122]
def keys:Str:=[97,98,99,100,101,102,103,104,105,106,107,108,109,110,111,112,113,114,115,116,117,118,119,120,121,122,48,49,50,51,52,53,54,55,56,57,45,95]
def kB(i:Int)(c:UInt8):Bool:=(((decide (((c.toNat:Int):Int)≥97))&&(decide (((c.toNat:Int):Int)≤122)))||((decide ((i:Int)>0))&&((((decide (((c.toNat:Int):Int)≥48))&&(decide (((c.toNat:Int):Int)≤57)))||(((c.toNat:Int):Int)==45))||(((c.toNat:Int):Int)==95))))
theorem Kba:∀ c:Fin 256,kB 0 (UInt8.ofNat c.val)=lows.contains (UInt8.ofNat c.val)∧kB 1 (UInt8.ofNat c.val)=keys.contains (UInt8.ofNat c.val)∧(lows.contains (UInt8.ofNat c.val)=true→keys.contains (UInt8.ofNat c.val)=true):=by decide +kernel
theorem Kbb(c:UInt8):kB 0 c=lows.contains c∧(lows.contains c=true→keys.contains c=true):=by
 have:=Kba ⟨c.toNat,c.toNat_lt⟩
 rw[UInt8.ofNat_toNat] at this
 exact⟨this.1,this.2.2⟩
theorem Kbc(i:Nat)(h:0<i)(c:UInt8):kB (i:Int) c=keys.contains c:=by
 have:=(Kba ⟨c.toNat,c.toNat_lt⟩).2.1
 rw[UInt8.ofNat_toNat] at this
 rw[←this]
 unfold kB
 rw[dT (show(i:Int)>0 by omega),dT (show(1:Int)>0 by decide)]
def kLoop(s:Str)(s2:Int):Option (LS Int (Unit ⊕ Bool)):=bif decide ((s2:Int)<(s.length:Int)) then(bi (getZ s s2) fun c12=>bif !(kB s2 c12) then(bi (some false) fun v=>some (.out (.inr v))) else(some (.go (wi (s2+1))))) else(some (.out (.inl ())))
theorem Kbd(k:Nat)(s:Str):Kxd k s=bi (loopM (kLoop s) k 0) fun q=>orI q fun a6=>some ((!((s:Str)==[]))&&(decide (((s.length:Int):Int)≤40))):=rfl
theorem Kbe(s:Str)(hl:s.length≤100000)(i:Nat)(hi:i<s.length):kLoop s (i:Int)=some (if kB (i:Int) s[i] then .go ((i+1:Nat):Int) else .out (.inr false)):=by
 have hg:getZ s (i:Int)=some s[i]:=Kvu (gGe hi)
 unfold kLoop
 rw[dT (show(i:Int)<(s.length:Int) by omega),cond_true,Kbu hg,Kuq (by omega) (by omega)]
 cases kB (i:Int) s[i]<;>rfl
theorem Kbf(s:Str):kLoop s (s.length:Int)=some (.out (.inl ())):=by
 unfold kLoop
 rw[dF (show ¬ (s.length:Int)<(s.length:Int) by omega)]
 rfl
theorem Kbg(s:Str)(hl:s.length≤100000):∀ (n k i:Nat),n=s.length - i→0<i→i≤s.length→n<k→loopM (kLoop s) k (i:Int)=some (if (s.drop i).all (fun c=>keys.contains c) then .inl () else .inr false)
 | n,0,i,_,_,_,h=>absurd h (Nat.not_lt_zero _)
 | n,k+1,i,hn,h0,hi,hk=>by
  by_cases he:i<s.length
  ·have hdr:s.drop i=s[i] :: s.drop (i+1):=List.drop_eq_getElem_cons he
   have hstep:=Kbe s hl i he
   rw[Kbc i h0] at hstep
   rw[hdr,List.all_cons]
   cases hD:keys.contains s[i] with
   | false=>
    rw[hD] at hstep
    exact Kbt _ hstep
   | true=>
    rw[hD] at hstep
    rw[Kbs _ hstep,Bool.true_and]
    exact Kbg s hl (n - 1) k (i+1) (by omega) (by omega) (by omega) (by omega)
  have:i=s.length:=by omega
  subst this
  rw[List.drop_length]
  exact Kbt _ (Kbf s)
def keyB(s:Str):Bool:=decide (1≤s.length∧s.length≤40)&&((s.take 1).all (fun c=>lows.contains c)&&s.all (fun c=>keys.contains c))
theorem keyP(k:Nat)(s:Str)(hs:s.length≤50000)(hk:s.length+1<k):Kxd k s=some (keyB s):=by
 rw[Kbd]
 obtain⟨k,rfl⟩:∃ k',k=k'+1:=⟨k - 1,by omega⟩
 cases s with
 | nil=>rfl
 | cons c t=>
  have h1:kLoop (c :: t) 0=some (if lows.contains c=true then .go ((1:Nat):Int) else .out (.inr false)):=by
   refine(Kbe (c :: t) (by omega) 0 (by simp)).trans ?_
   show some (if kB 0 c=true then LS.go ((1:Nat):Int) else LS.out (Sum.inr false))=_
   rw[(Kbb c).1]
  unfold keyB
  simp only[List.take_succ_cons,List.take_zero,List.all_cons,List.all_nil,Bool.and_true]
  cases hc:lows.contains c with
  | false=>
   rw[hc] at h1
   rw[Kbu (Kbt _ h1),Bool.false_and,Bool.and_false]
   rfl
  | true=>
   rw[hc] at h1
   have h2:=Kbg (c :: t) (by omega) ((c :: t).length - 1) k 1 rfl (by decide) (by simp) (by simp at hk ⊢;omega)
   rw[List.drop_one,List.tail_cons] at h2
   rw[Kbu ((Kbs _ h1).trans h2),(Kbb c).2 hc,Bool.true_and,Bool.true_and]
   cases t.all fun c=>keys.contains c with
   | false=>rw[Bool.and_false];rfl
   | true=>
    rw[Bool.and_true]
    show some ((!((c :: t:Str)==[]))&&(decide ((((c :: t).length:Int):Int)≤40)))=_
    rw[Kbv,dF (show ¬ (c :: t).length=0 by simp)]
    congr 1
    rw[Bool.not_false,Bool.true_and]
    refine decide_eq_decide.2 ?_
    simp only[List.length_cons]
    omega
theorem keyR(s:Str)(hs:s.length≤50000):Kyo s=some (keyB s):=by
 unfold Kyo keyB
 rw[Kbu (Kak _ 1 40)]
 by_cases h:1≤s.length∧s.length≤40
 ·rw[dT h,dT (show(1:Int)≤(s.length:Int)∧(s.length:Int)≤40 by omega),cond_true]
  have h1:subZ s 0 1=some (s.take 1):=by
   have:=Kvt (l:=s) (i:=0) (j:=1) (by decide) h.1
   simpa using this
  have h2:=Kaw (s.take 1) lows (by simp;omega) (by decide)
  have h3:=Kaw s keys (by omega) (by decide)
  rw[Kbu h1]
  rw[show Kyn (s.take 1) [97,98,99,100,101,102,103,104,105,106,107,108,109,110,111,112,113,114,115,116,117,118,119,120,121,122]=_ from h2]
  cases (s.take 1).all fun c=>lows.contains c with
  | false=>rfl
  | true=>
   simp only[bi_some,cond_true,Bool.true_and]
   rw[show Kyn s [97,98,99,100,101,102,103,104,105,106,107,108,109,110,111,112,113,114,115,116,117,118,119,120,121,122,48,49,50,51,52,53,54,55,56,57,45,95]=_ from h3]
   rfl
 rw[dF h,dF (show ¬ ((1:Int)≤(s.length:Int)∧(s.length:Int)≤40) by omega)]
 rfl
theorem Kbh{c:UInt8}:∀ {s:Str},(∀ b∈s,b≠c)→Lib.indexByte s c=-1
 | [],_=>rfl
 | b :: s,h=>by
  have h1:(b==c)=false:=by simpa using h b mCs
  have ih:=Kbh (s:=s) fun c hc=>h c (mCo _ hc)
  simp[Lib.indexByte,h1,ih]
theorem Kbi{c:UInt8}:∀ {x:Str} (t:Str),(∀ b∈x,b≠c)→Lib.indexByte (x++c :: t) c=(x.length:Int)
 | [],t,_=>by simp[Lib.indexByte]
 | b :: x,t,h=>by
  have h1:(b==c)=false:=by simpa using h b mCs
  have ih:=Kbi (x:=x) t fun c hc=>h c (mCo _ hc)
  simp only[List.cons_append,Lib.indexByte,h1,ih,List.length_cons]
  rw[if_neg (by decide),if_neg (by simp)]
  omega
theorem Kbj{c:UInt8}{s:Str}(h:∀ b∈s,b≠c):Lib.split s [c]=[s]:=by
 unfold Lib.split
 rw[Lib.count_one,List.count_eq_zero_of_not_mem fun hm=>h _ hm rfl]
 rfl
theorem Kbk{c:UInt8}{x:Str}(t:Str)(h:∀ b∈x,b≠c):Lib.split (x++c :: t) [c]=x :: Lib.split t [c]:=by
 unfold Lib.split
 rw[Lib.count_one,Lib.count_one,List.count_append,List.count_eq_zero_of_not_mem fun hm=>h _ hm rfl,List.count_cons_self,Nat.zero_add]
 have e:Lib.index (x++c :: t) [c]=(x.length:Int):=by rw[Lib.index_one];exact Kbi t h
 conv=>lhs;unfold Lib.splitK
 rw[e,if_neg (by simp)]
 simp
theorem Kbl(c:UInt8):∀ s:Str,(∀ b∈s,b≠c)∨∃ x t,s=x++c :: t∧∀ b∈x,b≠c
 | []=>.inl fun b hb=>by cases hb
 | a :: s=>by
  by_cases ha:a=c
  ·exact .inr ⟨[],s,by rw[ha];rfl,fun b hb=>by cases hb⟩
  rcases Kbl c s with h | ⟨x,t,h1,h2⟩
  ·refine .inl fun b hb=>?_
   rcases List.mem_cons.1 hb with rfl | hb
   ·exact ha
   exact h b hb
  refine .inr ⟨a :: x,t,by rw[h1];rfl,fun b hb=>?_⟩
  rcases List.mem_cons.1 hb with rfl | hb
  ·exact ha
  exact h2 b hb
theorem Kbm(c:UInt8)(s:Str):Lib.split s [c]≠[]:=by
 rcases Kbl c s with h | ⟨x,t,h1,h2⟩
 ·rw[Kbj h];simp
 rw[h1,Kbk t h2];simp
theorem Kbn(c:UInt8):∀ (n:Nat) (s:Str),s.length≤n→(∀ x∈Lib.split s [c],x.length≤s.length∧∀ b∈x,b∈s∧b≠c)∧(∀ b∈s,b=c∨∃ x∈Lib.split s [c],b∈x)∧(Lib.split s [c]).length≤s.length+1
 | n,s,hn=>by
  rcases Kbl c s with h | ⟨x,t,h1,h2⟩
  ·rw[Kbj h]
   refine⟨fun x hx=>?_,fun b hb=>.inr ⟨s,by simp,hb⟩,by simp⟩
   rw[List.mem_singleton.1 hx]
   exact⟨Nat.le_refl _,fun b hb=>⟨hb,h b hb⟩⟩
  have hl:s.length=x.length+1+t.length:=by rw[h1];simp;omega
  match n with
  | 0=>omega
  | n+1=>
   obtain⟨i1,i2,i3⟩:=Kbn c n t (by omega)
   rw[h1,Kbk t h2]
   refine⟨fun y hy=>?_,fun b hb=>?_,?_⟩
   ·rcases List.mem_cons.1 hy with rfl | hy
    ·exact⟨by simp,fun b hb=>⟨by simp[hb],h2 b hb⟩⟩
    obtain⟨j1,j2⟩:=i1 y hy
    exact⟨by simp;omega,fun b hb=>⟨by simp[(j2 b hb).1],(j2 b hb).2⟩⟩
   ·rw[List.mem_append,List.mem_cons] at hb
    rcases hb with hb | rfl | hb
    ·exact .inr ⟨x,by simp,hb⟩
    ·exact .inl rfl
    rcases i2 b hb with h | ⟨y,hy,h⟩
    ·exact .inl h
    exact .inr ⟨y,by simp[hy],h⟩
   simp;omega
theorem Kbo{c:UInt8}{s:Str}:decide (0≤Lib.indexByte s c)=s.contains c:=by
 rcases Kbl c s with h | ⟨x,t,h1,h2⟩
 ·rw[Kbh h]
  have:s.contains c=false:=Bool.eq_false_iff.2 fun hc=>h c (List.contains_iff_mem.1 hc) rfl
  rw[this];rfl
 rw[h1,Kbi t h2,dT (by omega)]
 simp
theorem Kbp(c:UInt8){s:Str}(h:s.length≤1000000):Kte s [c]=some (Lib.split s [c]):=by
 unfold Kte
 rw[show Nat.blt s.length 4294967281=true from by rw[Nat.blt_eq];omega]
 rfl
theorem Kbq{a b:Str}(h:a.length+b.length≤9223372036854775807):catZ a b=some (a++b):=by unfold catZ;rw[Nat.ble_eq_true_of_le h];rfl
theorem Kbr(n:Int):(runeS n).length≤4:=by
 unfold runeS Utf8.encode
 simp only
 repeat' split
 all_goals simp
end Go.Gk
namespace Go.Gk
def dd(s:List Int):Nat→List Int
 | 0=>[]
 | m+1=>if 0<m∧s[m]?=s[m - 1]? then dd s m else dd s m++(s[m]?).toList
theorem Ksq(s:List Int):∀ m,(dd s m).length≤m
 | 0=>Nat.le_refl _
 | m+1=>by
  have:=Ksq s m
  unfold dd
  split
  ·omega
  rw[List.length_append]
  have:(s[m]?).toList.length≤1:=by cases s[m]?<;>simp
  omega
theorem Ksr(s:List Int)(x:Int):∀ m,m≤s.length→(x∈dd s m ↔ x∈s.take m)
 | 0,_=>by simp[dd]
 | m+1,h=>by
  have ih:=Ksr s x m (by omega)
  have hm:=gGe (show m<s.length by omega)
  have e:dd s (m+1)=if 0<m∧s[m]?=s[m - 1]? then dd s m else dd s m++(s[m]?).toList:=rfl
  rw[List.take_add_one,List.mem_append,←ih,e]
  split
  ·rename_i hd
   refine⟨fun h=>.inl h,fun h=>h.elim id fun h=>?_⟩
   rw[hd.2] at h
   have h1:s[m - 1]?=some x:=by simpa using h
   rw[ih]
   refine mOg (i:=m - 1) ?_
   rw[List.getElem?_take_of_lt (by omega)]
   exact h1
  rw[List.mem_append]
theorem Kss(s:List Int)(hs:s.Pairwise (·≤·)):∀ m,m≤s.length→(dd s m).Pairwise (· < ·)
 | 0,_=>List.Pairwise.nil
 | m+1,h=>by
  have ih:=Kss s hs m (by omega)
  unfold dd
  split
  ·exact ih
  rename_i hd
  have hm:=gGe (show m<s.length by omega)
  rw[hm]
  refine List.pairwise_append.2 ⟨ih,List.pairwise_singleton ..,fun x hx y hy=>?_⟩
  simp only[Option.toList_some,List.mem_singleton] at hy
  subst hy
  have hx:=(Ksr s x m (by omega)).1 hx
  obtain⟨j,hj⟩:=List.getElem?_of_mem hx
  have hjm:j<m:=by have:=(gEs.1 hj).1;simp at this;omega
  rw[List.getElem?_take_of_lt hjm] at hj
  have hjl:j<s.length:=by omega
  have e1:s[j]=x:=by rw[gGe hjl] at hj;exact oSi hj
  have hpw:=List.pairwise_iff_getElem.1 hs
  have l1:s[j]≤s[m - 1]:=by
   by_cases e:j=m - 1
   ·subst e;exact Int.le_refl _
   exact hpw j (m - 1) _ (by omega) (by omega)
  have l2:s[m - 1]≤s[m]:=hpw (m - 1) m _ (by omega) (by omega)
  have hne:s[m]≠s[m - 1]:=fun e=>hd ⟨by omega,by rw[hm,gGe (by omega),e]⟩
  omega
theorem Kst(k:Nat)(s:List Int)(hk:s.length+2≤k)(hl:s.length≤4294967296):Kyj k s=some (dd s s.length):=by
 unfold Kyj
 by_cases h2:s.length<2
 ·rw[dT (by omega)]
  simp only[cond_true]
  match s,h2 with
  | [],_=>rfl
  | [x],_=>rfl
 rw[dF (by omega)]
 simp only[cond_false]
 refine Kvf (I:=fun i:Int=>1≤i∧i≤s.length∧dd s i.toNat=s.take i.toNat) (μ:=fun i=>(s.length - i.toNat)) (Q:=fun r=>r=.inl ()∧dd s s.length=s∨r=.inr (dd s s.length)) ?_ ⟨by omega,by omega,?_⟩ (by simp;omega) ?_
 ·rintro i ⟨h1,hi,hd⟩
  by_cases hlt:i<s.length
  ·rw[dT hlt]
   simp only[cond_true]
   obtain⟨j,rfl⟩:=Int.eq_ofNat_of_zero_le (show 0≤i by omega)
   simp only[Int.toNat_natCast] at hd ⊢
   have hj:j<s.length:=by omega
   have w1:wi ((j:Int) - 1)=((j - 1:Nat):Int):=by rw[Kuq (by omega) (by omega)];omega
   have w2:wi ((j:Int)+1)=((j+1:Nat):Int):=by rw[Kuq (by omega) (by omega)];omega
   rw[Kvu (gGe hj),w1,Kvu (gGe (show j - 1<s.length by omega))]
   simp only[bi_some]
   have hds:dd s (j+1)=if s[j]=s[j - 1] then s.take j else s.take (j+1):=by
    rw[dd,gGe hj,gGe (show j - 1<s.length by omega),hd,List.take_add_one,gGe hj]
    simp[show 0<j by omega]
   by_cases he:s[j]=s[j - 1]
   ·rw[if_pos he] at hds
    have:((s[j]:Int)==s[j - 1])=true:=by simpa using he
    rw[this]
    simp only[cond_true]
    have hz:subZ s (j:Int) (s.length:Int)=some (s.drop j):=by
     have e:=Kvt (l:=s) (i:=j) (j:=s.length) (by omega) (by omega)
     rw[e]
     simp
    rw[hz]
    simp only[bi_some]
    refine .inl ⟨.inr (dd s s.length),?_,.inr rfl⟩
    refine Kvf (I:=fun t:List Int×Int×Int=>t.1.length=s.length∧1≤t.2.2∧j+t.2.2≤s.length∧0≤t.2.1∧t.2.1≤j+t.2.2 - 1∧dd s (j+t.2.2.toNat)=t.1.take t.2.1.toNat∧∀ q,j+t.2.2.toNat - 1≤q→t.1[q]?=s[q]?)
     (μ:=fun t=>s.length - (j+t.2.2.toNat)) (Q:=fun r=>r.1.length=s.length∧0≤r.2∧r.2≤s.length∧dd s s.length=r.1.take r.2.toNat) ?_ ⟨rfl,by simp,by simp;omega,by simp,by simp,by simpa using hds,fun _ _=>rfl⟩ (by simp;omega) ?_
    ·rintro⟨cur,w,q⟩ ⟨i1,i2,i3,i4,i5,i6,i7⟩
     simp only at i1 i2 i3 i4 i5 i6 i7 ⊢
     obtain⟨q,rfl⟩:=Int.eq_ofNat_of_zero_le (show 0≤q by omega)
     obtain⟨w,rfl⟩:=Int.eq_ofNat_of_zero_le i4
     simp only[Int.toNat_natCast] at *
     have hdl:(s.drop j).length=s.length - j:=by simp
     by_cases hq:(q:Int)<((s.drop j).length:Int)
     ·rw[dT hq]
      rw[hdl] at hq
      simp only[cond_true]
      have v1:wi ((q:Int) - 1)=((q - 1:Nat):Int):=by rw[Kuq (by omega) (by omega)];omega
      have v2:wi ((q:Int)+1)=((q+1:Nat):Int):=by rw[Kuq (by omega) (by omega)];omega
      have v3:wi ((w:Int)+1)=((w+1:Nat):Int):=by rw[Kuq (by omega) (by omega)];omega
      have g1:(s.drop j)[q]?=some s[j+q]:=by rw[List.getElem?_drop,gGe (by omega)]
      have g2:(s.drop j)[q - 1]?=some s[j+q - 1]:=by rw[List.getElem?_drop,gGe (by omega)];congr 2;omega
      have g3:cur[j+q]?=some s[j+q]:=by rw[i7 _ (by omega),gGe (by omega)]
      have g4:cur[j+(q - 1)]?=some s[j+q - 1]:=by rw[i7 _ (by omega),gGe (by omega)];congr 2;omega
      have g5:∃ u,cur[w]?=some u:=⟨_,gGe (by omega)⟩
      obtain⟨u,g5⟩:=g5
      rw[Kvu g1,v1]
      simp only[bi_some,Int.toNat_natCast]
      rw[Kvu g3,Kvu g2,Kvu g4,Kvu g5]
      simp only[bi_some]
      have hdq:dd s (j+(q+1))=if s[j+q]=s[j+q - 1] then dd s (j+q) else dd s (j+q)++[s[j+q]]:=by
       rw[←Nat.add_assoc,dd,gGe (show j+q<s.length by omega),gGe (show j+q - 1<s.length by omega)]
       simp[show 0<j+q by omega]
      by_cases hne:s[j+q]=s[j+q - 1]
      ·have e:((s[j+q]:Int) != s[j+q - 1])=false:=by simpa using hne
       rw[e,v2]
       rw[if_pos hne] at hdq
       refine .inr ⟨_,rfl,⟨i1,by simp;omega,by simp;omega,by simp,by simp;omega,by simpa [hdq] using i6,fun p hp=>i7 p (by simp at hp;omega)⟩,by simp;omega⟩
      have e:((s[j+q]:Int) != s[j+q - 1])=true:=by simpa using hne
      rw[e,v2,v3]
      rw[if_neg hne] at hdq
      refine .inr ⟨_,rfl,⟨by simpa using i1,by simp;omega,by simp;omega,by simp;omega,by simp;omega,?_,fun p hp=>?_⟩,by simp;omega⟩
      ·simp only[Int.toNat_natCast]
       rw[hdq,i6,List.take_add_one,gSs (by omega),List.take_set_of_le (Nat.le_refl _)]
       rfl
      simp only[Int.toNat_natCast] at hp
      rw[gSn (by omega)]
      exact i7 p (by omega)
     rw[dF hq]
     rw[hdl] at hq
     refine .inl ⟨_,rfl,i1,by simp,by simp;omega,?_⟩
     simp only[Int.toNat_natCast]
     rw[←i6]
     congr 1
     omega
    rintro⟨cur,w⟩ ⟨r1,r2,r3,r4⟩
    simp only at r1 r2 r3 r4 ⊢
    obtain⟨w,rfl⟩:=Int.eq_ofNat_of_zero_le r2
    have e:=Kvt (l:=cur) (i:=w) (j:=cur.length) (by omega) (by omega)
    rw[e]
    simp only[bi_some,Int.toNat_natCast] at r4 ⊢
    rw[r4]
   rw[if_neg he] at hds
   have:((s[j]:Int)==s[j - 1])=false:=by simpa using he
   rw[this,w2]
   exact .inr ⟨_,rfl,⟨by omega,by omega,by simpa using hds⟩,by simp;omega⟩
  rw[dF hlt]
  refine .inl ⟨_,rfl,.inl ⟨rfl,?_⟩⟩
  have:i.toNat=s.length:=by omega
  rw[this] at hd
  simpa using hd
 ·simp only[dd,Int.reduceToNat]
  simp[List.take_add_one]
 rintro r (⟨rfl,h⟩ | rfl)
 ·simp only[orI]
  rw[h]
 rfl
theorem Ksu:∀ {a b:List Int},a.Pairwise (· < ·)→b.Pairwise (· < ·)→(∀ x,x∈a ↔ x∈b)→a=b
 | [],[],_,_,_=>rfl
 | [],y :: b,_,_,h=>by have:=(h y).2 (mCs ..);cases this
 | x :: a,[],_,_,h=>by have:=(h x).1 (mCs ..);cases this
 | x :: a,y :: b,ha,hb,h=>by
  obtain⟨a1,a2⟩:=List.pairwise_cons.1 ha
  obtain⟨b1,b2⟩:=List.pairwise_cons.1 hb
  have e:x=y:=by
   have h1:=(h x).1 (mCs ..)
   have h2:=(h y).2 (mCs ..)
   rcases List.mem_cons.1 h1 with h1 | h1
   ·exact h1
   rcases List.mem_cons.1 h2 with h2 | h2
   ·exact h2.symm
   have:=b1 x h1;have:=a1 y h2;omega
  subst e
  congr 1
  refine Ksu a2 b2 fun z=>?_
  have hz:=h z
  simp only[List.mem_cons] at hz
  constructor
  ·intro hm
   rcases hz.1 (.inr hm) with rfl | h'
   ·exact absurd (a1 z hm) (by omega)
   exact h'
  intro hm
  rcases hz.2 (.inr hm) with rfl | h'
  ·exact absurd (b1 z hm) (by omega)
  exact h'
def rise(l:List Int):List Int:=dd (l.mergeSort fun x y=>decide (x≤y)) l.length
theorem Ksv(l:List Int):(l.mergeSort fun x y=>decide (x≤y)).Pairwise (·≤·):=by
 have:=List.pairwise_mergeSort (le:=fun x y:Int=>decide (x≤y)) (fun a b c h1 h2=>by simp only[decide_eq_true_eq] at *;omega) (fun a b=>by simp only[Bool.or_eq_true,decide_eq_true_eq];omega) l
 exact this.imp fun h=>by simpa using h
theorem Ksw(l:List Int):(rise l).Pairwise (· < ·):=Kss _ (Ksv l) _ (by simp)
theorem Ksx(l:List Int)(x:Int):x∈rise l ↔ x∈l:=by
 unfold rise
 rw[Ksr _ _ _ (by simp)]
 have:(l.mergeSort fun x y=>decide (x≤y)).take l.length=l.mergeSort fun x y=>decide (x≤y):=List.take_of_length_le (by simp)
 rw[this,List.mem_mergeSort]
theorem Ksy(k:Nat)(l:List Int)(hk:l.length+2≤k)(hl:l.length≤4294967296):Kto l=some (l.mergeSort fun x y=>decide (x≤y))∧Kyj k (l.mergeSort fun x y=>decide (x≤y))=some (rise l):=by
 refine⟨by unfold Kto;rw[Nat.ble_eq_true_of_le hl];rfl,?_⟩
 rw[Kst k _ (by simpa using hk) (by simpa using hl)]
 unfold rise
 simp
end Go.Gk
