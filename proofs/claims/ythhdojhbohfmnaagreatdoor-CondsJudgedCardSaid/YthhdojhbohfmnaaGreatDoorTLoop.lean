import Derived.Test.YthhdojhbohfmnaaGreatDoorXJM
set_option linter.all false
set_option maxRecDepth 100000
namespace Go.Gk
theorem Lbl{σ ρ:Type}{f:σ→Option (LS σ ρ)}(I:σ→Prop)(μ:σ→Nat)(Q:ρ→Prop)(step:∀ s,I s→(∃ r,f s=some (.out r)∧Q r)∨(∃ s',f s=some (.go s')∧I s'∧μ s'<μ s)) :
  ∀ (k:Nat) (s:σ),μ s<k→I s→∃ r,loopM f k s=some r∧Q r
 | 0,s,hk,_=>absurd hk (Nat.not_lt_zero _)
 | k+1,s,hk,h=>by
  rcases step s h with⟨r,e,q⟩ | ⟨s',e,i,m⟩
  ·exact⟨r,by simp only[loopM,e],q⟩
  ·obtain⟨r,e2,q⟩:=Lbl I μ Q step k s' (by omega) i
   exact⟨r,by simp only[loopM,e];exact e2,q⟩
theorem Lbm{σ ρ β:Type}{f:σ→Option (LS σ ρ)}{g:ρ→Option β}{k:Nat}{s:σ}{v:β}(I:σ→Prop)(μ:σ→Nat)(Q:ρ→Prop)
  (step:∀ s,I s→(∃ r,f s=some (.out r)∧Q r)∨(∃ s',f s=some (.go s')∧I s'∧μ s'<μ s)) (h0:I s) (hk:μ s<k) (hg:∀ r,Q r→g r=some v):bi (loopM f k s) g=some v:=by
 obtain⟨r,h1,h2⟩:=Lbl I μ Q step k s hk h0
 rw[h1];exact hg r h2
theorem Lbn{α σ:Type}{f:Nat→α→σ→Option σ}(L:List α)(I:Nat→σ→Prop)(step:∀ (i:Nat) (x:α) (s:σ),L[i]?=some x→I i s→∃ s',f i x s=some s'∧I (i+1) s') :
  ∀ (l:List α) (i:Nat) (s:σ),L.drop i=l→I i s→∃ r,rangeF f i l s=some r∧I (i+l.length) r
 | [],i,s,_,h=>⟨s,rfl,h⟩
 | x :: l,i,s,hd,h=>by
  have hx:L[i]?=some x:=by have:=congrArg (fun q=>q[0]?) hd;simpa using this
  obtain⟨s',h1,h2⟩:=step i x s hx h
  obtain⟨r,h3,h4⟩:=Lbn L I step l (i+1) s' (by rw[←List.drop_drop,hd];rfl) h2
  refine⟨r,by simp only[rangeF,h1,bi_some,h3],?_⟩
  rw[List.length_cons,show i+(l.length+1)=i+1+l.length by omega]
  exact h4
theorem Lbo{α σ β:Type}{f:Nat→α→σ→Option σ}{g:σ→Option β}{l:List α}{s:σ}{v:β}(I:Nat→σ→Prop)(h0:I 0 s)
  (step:∀ (i:Nat) (x:α) (s:σ),l[i]?=some x→I i s→∃ s',f i x s=some s'∧I (i+1) s') (hg:∀ r,I l.length r→g r=some v):bi (rangeF f 0 l s) g=some v:=by
 obtain⟨r,h1,h2⟩:=Lbn l I step l 0 s rfl h0
 rw[h1];exact hg r (by simpa using h2)
theorem Lbp{σ:Type}{f:Nat→σ→Option σ}{n:Int}{s:σ}(I:Nat→σ→Prop)(h0:I 0 s)
  (step:∀ (i:Nat) (s:σ),i<n.toNat→I i s→∃ s',f i s=some s'∧I (i+1) s'):∃ r,rangeG f n s=some r∧I n.toNat r:=by
 obtain⟨r,h1,h2⟩:=Lbn (f:=fun i (_:Unit) s=>f i s) (List.replicate n.toNat ()) I (fun i x s hx hi=>step i s (by have:=(gEs.1 hx).1;simpa using this) hi) (List.replicate n.toNat ()) 0 s rfl h0
 exact⟨r,h1,by simpa using h2⟩
theorem Lbq{σ β:Type}{f:Nat→σ→Option σ}{g:σ→Option β}{n:Int}{s:σ}{v:β}(I:Nat→σ→Prop)(h0:I 0 s)
  (step:∀ (i:Nat) (s:σ),i<n.toNat→I i s→∃ s',f i s=some s'∧I (i+1) s') (hg:∀ r,I n.toNat r→g r=some v):bi (rangeG f n s) g=some v:=by
 obtain⟨r,h1,h2⟩:=Lbp I h0 step
 rw[h1];exact hg r h2
theorem Lbr{α σ ρ:Type}{f:Nat→α→σ→Option (LS σ ρ)}(L:List α)(I:Nat→σ→Prop)(Q:ρ→Prop)(step:∀ (i:Nat) (x:α) (s:σ),L[i]?=some x→I i s→(∃ s',f i x s=some (.go s')∧I (i+1) s')∨∃ r,f i x s=some (.out r)∧Q r) :
  ∀ (l:List α) (i:Nat) (s:σ),L.drop i=l→I i s→(∃ s',rangeM f i l s=some (.go s')∧I (i+l.length) s')∨∃ r,rangeM f i l s=some (.out r)∧Q r
 | [],i,s,_,h=>.inl ⟨s,rfl,h⟩
 | x :: l,i,s,hd,h=>by
  have hx:L[i]?=some x:=by have:=congrArg (fun q=>q[0]?) hd;simpa using this
  rcases step i x s hx h with⟨s',h1,h2⟩ | ⟨r,h1,h2⟩
  ·rcases Lbr L I Q step l (i+1) s' (by rw[←List.drop_drop,hd];rfl) h2 with⟨s2,h3,h4⟩ | ⟨r,h3,h4⟩
   ·refine .inl ⟨s2,by simp only[rangeM,h1,h3],?_⟩
    rw[List.length_cons,show i+(l.length+1)=i+1+l.length by omega]
    exact h4
   ·exact .inr ⟨r,by simp only[rangeM,h1,h3],h4⟩
  ·exact .inr ⟨r,by simp only[rangeM,h1],h2⟩
theorem Lbs{α σ σ' ρ ρ':Type}{f:Nat→α→σ→Option (LS σ ρ)}{g:Nat→α→σ'→Option (LS σ' ρ')}(L:List α)(I:Nat→σ→σ'→Prop)(Q:ρ→ρ'→Prop)
  (step:∀ (i:Nat) (x:α) (s:σ) (t:σ'),L[i]?=some x→I i s t→(∃ s' t',f i x s=some (.go s')∧g i x t=some (.go t')∧I (i+1) s' t')∨∃ r q,f i x s=some (.out r)∧g i x t=some (.out q)∧Q r q) :
  ∀ (l:List α) (i:Nat) (s:σ) (t:σ'),L.drop i=l→I i s t→(∃ s' t',rangeM f i l s=some (.go s')∧rangeM g i l t=some (.go t')∧I (i+l.length) s' t')∨∃ r q,rangeM f i l s=some (.out r)∧rangeM g i l t=some (.out q)∧Q r q
 | [],i,s,t,_,h=>.inl ⟨s,t,rfl,rfl,h⟩
 | x :: l,i,s,t,hd,h=>by
  have hx:L[i]?=some x:=by have:=congrArg (fun q=>q[0]?) hd;simpa using this
  rcases step i x s t hx h with⟨s',t',h1,h1',h2⟩ | ⟨r,q,h1,h1',h2⟩
  ·rcases Lbs L I Q step l (i+1) s' t' (by rw[←List.drop_drop,hd];rfl) h2 with⟨s2,t2,h3,h3',h4⟩ | ⟨r,q,h3,h3',h4⟩
   ·refine .inl ⟨s2,t2,by simp only[rangeM,h1,h3],by simp only[rangeM,h1',h3'],?_⟩
    rw[List.length_cons,show i+(l.length+1)=i+1+l.length by omega]
    exact h4
   ·exact .inr ⟨r,q,by simp only[rangeM,h1,h3],by simp only[rangeM,h1',h3'],h4⟩
  ·exact .inr ⟨r,q,by simp only[rangeM,h1],by simp only[rangeM,h1'],h2⟩
theorem Lbt{σ τ ρ ρ':Type}{f:σ→Option (LS σ ρ)}{g:τ→Option (LS τ ρ')}(I:σ→τ→Prop)(μ:σ→Nat)(Q:ρ→ρ'→Prop)
  (step:∀ s t,I s t→(∃ r q,f s=some (.out r)∧g t=some (.out q)∧Q r q)∨(∃ s' t',f s=some (.go s')∧g t=some (.go t')∧I s' t'∧μ s'<μ s)) :
  ∀ (k:Nat) (s:σ) (t:τ),μ s<k→I s t→∃ r q,loopM f k s=some r∧loopM g k t=some q∧Q r q
 | 0,s,t,hk,_=>absurd hk (Nat.not_lt_zero _)
 | k+1,s,t,hk,h=>by
  rcases step s t h with⟨r,q,e1,e2,hq⟩ | ⟨s',t',e1,e2,i,m⟩
  ·exact⟨r,q,by simp only[loopM,e1],by simp only[loopM,e2],hq⟩
  ·obtain⟨r,q,e3,e4,hq⟩:=Lbt I μ Q step k s' t' (by omega) i
   exact⟨r,q,by simp only[loopM,e1];exact e3,by simp only[loopM,e2];exact e4,hq⟩
theorem Lbu{α σ τ:Type}{f:Nat→α→σ→Option σ}{g:Nat→α→τ→Option τ}(L:List α)(I:Nat→σ→τ→Prop)
  (step:∀ (i:Nat) (x:α) (s:σ) (t:τ),L[i]?=some x→I i s t→∃ s' t',f i x s=some s'∧g i x t=some t'∧I (i+1) s' t') :
  ∀ (l:List α) (i:Nat) (s:σ) (t:τ),L.drop i=l→I i s t→∃ s' t',rangeF f i l s=some s'∧rangeF g i l t=some t'∧I (i+l.length) s' t'
 | [],i,s,t,_,h=>⟨s,t,rfl,rfl,h⟩
 | x :: l,i,s,t,hd,h=>by
  have hx:L[i]?=some x:=by have:=congrArg (fun q=>q[0]?) hd;simpa using this
  obtain⟨s',t',h1,h1',h2⟩:=step i x s t hx h
  obtain⟨s2,t2,h3,h3',h4⟩:=Lbu L I step l (i+1) s' t' (by rw[←List.drop_drop,hd];rfl) h2
  refine⟨s2,t2,by simp only[rangeF,h1,bi_some,h3],by simp only[rangeF,h1',bi_some,h3'],?_⟩
  rw[List.length_cons,show i+(l.length+1)=i+1+l.length by omega]
  exact h4
theorem Lbv{σ ρ β:Type}{f:σ→Option (LS σ ρ)}{g:ρ→Option β}{k:Nat}{s:σ}(s':σ){v:Option β}(h:f s=some (.go s'))(h2:bi (loopM f k s') g=v):bi (loopM f (k+1) s) g=v:=by
 simp only[loopM,h]
 exact h2
theorem Lbw{σ ρ β:Type}{f:σ→Option (LS σ ρ)}{g:ρ→Option β}{k:Nat}{s:σ}(r:ρ){v:Option β}(h:f s=some (.out r))(h2:g r=v):bi (loopM f (k+1) s) g=v:=by
 simp only[loopM,h]
 exact h2
theorem Lbx{α σ:Type}{f:α→σ→Option σ}{x:α}{s r:σ}(h:f x s=some r):rangeP f [x] s=some r:=by
 rw[Knd]
 intro m' hm
 rw[List.perm_singleton.1 hm]
 simp only[rangeL,h]
theorem Lby{α σ:Type}{f:α→σ→Option σ}{x y:α}{s r:σ}(h1:rangeL f [x,y] s=some r)(h2:rangeL f [y,x] s=some r):rangeP f [x,y] s=some r:=by
 rw[Knd]
 intro m' hm
 have hl:=hm.length_eq
 match m',hl with
 | [a,b],_=>
  have ha:a=x∨a=y:=by have:=hm.mem_iff.1 (mCs .. : a∈[a,b]);simpa using this
  rcases ha with rfl | rfl
  ·have:=List.Perm.cons_inv hm
   rw[List.perm_singleton.1 this]
   exact h1
  have h3:[a,b].Perm [a,x]:=hm.trans (List.Perm.swap _ _ _)
  have:=List.Perm.cons_inv h3
  rw[List.perm_singleton.1 this]
  exact h2
theorem Lbz{α σ:Type}{f:α→σ→Option σ}{s:σ}:rangeP f [] s=some s:=by
 rw[Knd]
 intro m' hm
 rw[List.perm_nil.1 hm]
 rfl
theorem Lca{α:Type}{l:List α}{i j:Nat}(h1:i≤j)(h2:j≤l.length):subZ l (i:Int) (j:Int)=some ((l.take j).drop i):=by
 unfold subZ
 rw[dT (show(0:Int)≤i by omega),dT (show(i:Int)≤j by omega),dT (show(j:Int)≤(l.length:Int) by omega)]
 rfl
theorem Lcb{α:Type}{l:List α}{i:Nat}{x:α}(h:l[i]?=some x):getZ l (i:Int)=some x:=by rw[getZ_cast];exact h
theorem Lcc{α:Type}{l:List α}{i:Int}{j:Nat}{x:α}(hi:i=(j:Int))(h:l[j]?=some x):getZ l i=some x:=by subst hi;exact Lcb h
end Go.Gk
namespace Go.Gk
theorem Law{n:Int}(h1 : -9223372036854775808≤n)(h2:n≤9223372036854775807):wi n=n:=w64 ⟨h1,h2⟩
theorem Lax{α σ:Type}{f:Nat→α→σ→Option σ}(n:Nat)(I:Nat→σ→Prop):∀ (l:List α) (i:Nat) (s:σ),i+l.length≤n→I i s→(∀ j x s,j<n→I j s→x∈l→∃ s',f j x s=some s'∧I (j+1) s')→∃ r,rangeF f i l s=some r∧I (i+l.length) r
 | [],i,s,_,h,_=>⟨s,rfl,h⟩
 | x :: l,i,s,hn,h,st=>by
  simp only[List.length_cons] at hn
  obtain⟨s',h1,h2⟩:=st i x s (by omega) h (mCs)
  obtain⟨r,h3,h4⟩:=Lax n I l (i+1) s' (by omega) h2 fun j y s hj hI hy=>st j y s hj hI (mCo _ hy)
  refine⟨r,by simp only[rangeF,h1,bi_some,h3],?_⟩
  rw[List.length_cons,show i+(l.length+1)=i+1+l.length by omega]
  exact h4
theorem Laz(x n:Int)(hn:1≤n)(hn2:n≤4611686018427387904):∃ r,0≤r∧r<n∧Ldf x n=some r:=by
 have h1:x.tmod n<n:=Int.tmod_lt_of_pos x (by omega)
 have h2 : -n<x.tmod n:=by
  have:=Int.tmod_lt_of_pos (-x) (show 0<n by omega)
  rw[Int.neg_tmod] at this
  omega
 unfold Ldf remZ
 rw[dF (show ¬ n<1 by omega),dF (show ¬ n=0 by omega)]
 simp only[cond_false,bi_some]
 by_cases h:x.tmod n<0
 ·rw[dT h]
  exact⟨x.tmod n+n,by omega,by omega,by simp only[cond_true,bi_some];rw[Law (by omega) (by omega)]⟩
 rw[dF h]
 exact⟨x.tmod n,by omega,h1,rfl⟩
theorem Lba(l:List Int)(a n:Int)(hl:l.length≤9223372036854775807)(h0:0≤a)(h1:a<4611686018427387904)(hn:1≤n)(hn2:n≤4611686018427387904) :
  ∃ r,0≤r∧r<n∧Ldg ⟨l,a⟩ n=some (r,⟨l,a+1⟩):=by
 unfold Ldg
 have hw:wi (a+1)=a+1:=Law (by omega) (by omega)
 have hw1:wi (a+1 - 1)=a:=by rw[Law (by omega) (by omega)];omega
 simp only[hw,hw1]
 by_cases hne:l.length=0
 ·obtain⟨r,r0,r1,hr⟩:=Laz (wi ((a+1) * 7919)) n hn hn2
  exact⟨r,r0,r1,by simp[hne,hr]⟩
 ·have hk:a.toNat % l.length<l.length:=Nat.mod_lt _ (by omega)
  have hkk:a.tmod (l.length:Int)=((a.toNat % l.length:Nat):Int):=by
   rw[Int.tmod_eq_emod_of_nonneg h0,Int.natCast_emod,Int.toNat_of_nonneg h0]
  have hne':¬ (l.length:Int)=0:=by omega
  obtain⟨r1,_,_,e1⟩:=Laz l[a.toNat % l.length] 1073741824 (by decide) (by decide)
  obtain⟨r,r0,r1,hr⟩:=Laz (wi (r1+wi (wi (a.tdiv (l.length:Int)) * wi (7919+((a.toNat % l.length:Nat):Int))))) n hn hn2
  refine⟨r,r0,r1,?_⟩
  have:((l.length:Int)==0)=false:=by simpa using hne'
  rw[this]
  simp only[cond_false,remZ,divZ,decide_eq_false hne',bi_some,hkk,getZ_cast,List.getElem?_eq_getElem hk,e1]
  rw[show IntKind.i64.wrap (a.tdiv (l.length:Int))=wi (a.tdiv (l.length:Int)) from rfl,hr]
  rfl
theorem Lbb(l:List Int)(a n:Int)(hl:l.length≤9223372036854775807)(h0:0≤a)(h1:a<4611686018427387904)(hn:1≤n)(hn2:n≤4611686018427387904) :
  ∃ b,Ldi ⟨l,a⟩ n=some (b,⟨l,a+1⟩):=by
 obtain⟨r,_,_,h⟩:=Lba l a n hl h0 h1 hn hn2
 exact⟨_,by unfold Ldi;rw[h];rfl⟩
theorem Lbc{α:Type}(xs:List α){r:Int}(h0:0≤r)(h1:r<xs.length):∃ x,x∈xs∧getZ xs r=some x:=by
 obtain⟨k,rfl⟩:=Int.eq_ofNat_of_zero_le h0
 exact⟨xs[k],List.getElem_mem _,by rw[getZ_cast,gGe (by omega)]⟩
theorem Lbd(l:List Int)(a:Int)(xs:List Int)(hl:l.length≤9223372036854775807)(h0:0≤a)(h1:a<4611686018427387904)(hn:1≤xs.length)(hn2:xs.length≤1000) :
  ∃ x,x∈xs∧Ldh ⟨l,a⟩ xs=some (x,⟨l,a+1⟩):=by
 obtain⟨r,r0,r1,h⟩:=Lba l a xs.length hl h0 h1 (by omega) (by omega)
 obtain⟨x,hx,e⟩:=Lbc xs r0 r1
 exact⟨x,hx,by unfold Ldh;rw[h];simp only[bi_some,e]⟩
theorem Lbe{α:Type}{a b:List α}(h:a.length+b.length≤4294967296):apd a b=some (a++b):=by unfold apd;rw[Nat.ble_eq_true_of_le h];rfl
def Dr{α:Type}(l:List Int)(a:Int)(n:Int)(m:Option (α×Lcu))(p:α→Prop):Prop:=∃ x a',p x∧a≤a'∧a'≤a+n∧m=some (x,⟨l,a'⟩)
theorem Lbf(l:List Int)(a lo hi:Int)(hl:l.length≤9223372036854775807)(h0:0≤a)(h1:a<4611686018427387904)(h2:lo≤hi)(h3 : -1000000000≤lo)(h4:hi≤1000000000) :
  ∃ r,lo≤r∧r≤hi∧Ldm ⟨l,a⟩ lo hi=some (r,⟨l,a+1⟩):=by
 unfold Ldm
 have w1:wi (hi - lo)=hi - lo:=Law (by omega) (by omega)
 have w2:wi (hi - lo+1)=hi - lo+1:=Law (by omega) (by omega)
 obtain⟨r,r0,r1,hr⟩:=Lba l a (hi - lo+1) hl h0 h1 (by omega) (by omega)
 refine⟨lo+r,by omega,by omega,?_⟩
 rw[dF (show ¬ hi<lo by omega),w1,w2,hr]
 simp only[cond_false,bi_some]
 rw[Law (by omega) (by omega)]
theorem oddD(l:List Int)(a lo hi:Int)(hl:l.length≤9223372036854775807)(h0:0≤a)(h1:a<4611686018427370000)(h2:lo≤hi)(h3 : -1000000000≤lo)(h4:hi≤1000000000):Dr l a 5 (Ldn ⟨l,a⟩ lo hi) fun _=>True:=by
 obtain⟨f,hf⟩:=Lbb l a 12 hl (by omega) (by omega) (by decide) (by decide)
 unfold Ldn Dr
 rw[hf]
 simp only[bi_some]
 cases f with
 | true=>
  obtain⟨x,_,hx⟩:=Lbd l (a+1) [wi (lo - 1),wi (hi+1),lo,hi,-1099511627776,1099511627776] hl (by omega) (by omega) (by simp) (by simp)
  simp only[cond_true,hx,bi_some]
  refine⟨_,_,?_,?_,?_,rfl⟩;exact trivial;omega;omega
 | false=>
  obtain⟨x,_,_,hx⟩:=Lbf l (a+1) lo hi hl (by omega) (by omega) h2 h3 h4
  simp only[cond_false,hx,bi_some]
  refine⟨_,_,?_,?_,?_,rfl⟩;exact trivial;omega;omega
theorem Lbg{α σ ρ:Type}{f g:Nat→α→σ→Option (LS σ ρ)}:∀ (l:List α) (i:Nat) (s:σ),(∀ j x s,x∈l→f j x s=g j x s)→rangeM f i l s=rangeM g i l s
 | [],i,s,_=>rfl
 | x :: l,i,s,h=>by
  simp only[rangeM,h i x s List.mem_cons_self]
  cases g i x s with
  | none=>rfl
  | some y=>
   cases y with
   | out r=>rfl
   | go s'=>exact Lbg l (i+1) s' fun j y s hy=>h j y s (mCo _ hy)
theorem Lbh{α ρ:Type}{f:Nat→α→Unit→Option (LS Unit ρ)}:∀ (l:List α) (i:Nat),(∀ j x,j<i+l.length→x∈l→∃ y,f j x ()=some y)→∃ r,rangeM f i l ()=some r
 | [],i,_=>⟨_,rfl⟩
 | x :: l,i,h=>by
  obtain⟨y,hy⟩:=h i x (by simp) mCs
  simp only[rangeM,hy]
  cases y with
  | out r=>exact⟨_,rfl⟩
  | go s'=>exact Lbh l (i+1) fun j y hj hy=>h j y (by simp only[List.length_cons];omega) (mCo _ hy)
theorem Lbi{α ρ:Type}{f:Nat→α→Unit→Option (LS Unit ρ)}(p:α→Bool)(v:ρ):∀ (l:List α) (i:Nat),(∀ j x,l[j]?=some x→f (i+j) x ()=some (if p x then .go () else .out v))→rangeM f i l ()=some (if l.all p then .go () else .out v)
 | [],i,_=>rfl
 | x :: l,i,h=>by
  have h0:=h 0 x (by simp)
  have ih:=Lbi p v l (i+1) fun j y hy=>by rw[show i+1+j=i+(j+1) by omega];exact h (j+1) y (by simpa using hy)
  rw[Nat.add_zero] at h0
  simp only[rangeM,h0,List.all_cons]
  by_cases hp:p x=true
  ·simp only[hp,if_true,Bool.true_and];exact ih
  simp only[Bool.not_eq_true] at hp;simp[hp]
theorem Lbj{α ρ:Type}{f:Nat→Unit→Option (LS Unit ρ)}(p:α→Bool)(v:ρ)(s:List α)(h:∀ i x,s[i]?=some x→f i ()=some (if p x then .go () else .out v)):rangeI f (s.length:Int) ()=some (if s.all p then .go () else .out v):=by
 have key:∀ (l:List α) (i:Nat),(∀ j x,l[j]?=some x→f (i+j) ()=some (if p x then .go () else .out v))→rangeM (fun i (_:Unit) s=>f i s) i (List.replicate l.length ()) ()=some (if l.all p then .go () else .out v):=by
  intro l
  induction l with
  | nil=>intro i _;rfl
  | cons x l ih0=>
   intro i h
   have h0:=h 0 x (by simp)
   have ih:=ih0 (i+1) fun j y hy=>by rw[show i+1+j=i+(j+1) by omega];exact h (j+1) y (by simpa using hy)
   rw[Nat.add_zero] at h0
   simp only[List.length_cons,List.replicate_succ,rangeM,h0,List.all_cons]
   by_cases hp:p x=true
   ·simp only[hp,if_true,Bool.true_and];exact ih
   simp only[Bool.not_eq_true] at hp;simp[hp]
 unfold rangeI
 rw[Int.toNat_natCast]
 exact key s 0 fun j x hx=>by rw[Nat.zero_add];exact h j x hx
theorem Lbk(n a b:Int):∃ c,Ldw n a b=some c∧Lfp n a b=some (!c):=by
 refine⟨_,rfl,?_⟩
 unfold Lfp
 congr 1
 rw[Bool.eq_iff_iff]
 simp
end Go.Gk
namespace Go.Gk
theorem Kdj{σ ρ:Type}{f:σ→Option (LS σ ρ)}{k:Nat}{s:σ}(s':σ)(h:f s=some (.go s')):loopM f (k+1) s=loopM f k s':=by simp only[loopM,h]
theorem Kdk{σ ρ:Type}{f:σ→Option (LS σ ρ)}{k:Nat}{s:σ}(r:ρ)(h:f s=some (.out r)):loopM f (k+1) s=some r:=by simp only[loopM,h]
theorem Kdl{α β:Type}{x:Option α}{f:α→Option β}{v:α}(h:x=some v):bi x f=f v:=by rw[h];rfl
theorem Kdm(x:Str):((x:Str)==[])=decide (x.length=0):=by cases x<;>rfl
def Ok{α:Type}(m:Option α)(Q:α→Prop):Prop:=∃ r,m=some r∧Q r
def Two{α β:Type}(m:Option α)(n:Option β)(R:α→β→Prop):Prop:=∃ r q,m=some r∧n=some q∧R r q
section
variable{α β γ δ σ τ ρ ρ':Type}
theorem Kdn{r:α}{Q:α→Prop}(h:Q r):Ok (some r) Q:=⟨r,rfl,h⟩
theorem Kdo{m:Option α}{g:α→Option β}{P:α→Prop}{Q:β→Prop}(h:Ok m P)(k:∀ r,P r→Ok (g r) Q):Ok (bi m g) Q:=by
 obtain⟨r,rfl,hr⟩:=h
 exact k r hr
theorem Kdp{m:Option α}{g:α→Option β}{r:α}{Q:β→Prop}(h:m=some r)(k:Ok (g r) Q):Ok (bi m g) Q:=by subst h;exact k
theorem Kdq{m:Option α}{P Q:α→Prop}(h:Ok m P)(k:∀ r,P r→Q r):Ok m Q:=let ⟨r,h1,h2⟩:=h;⟨r,h1,k r h2⟩
theorem Kdr{b:Bool}{m n:Option α}{Q:α→Prop}(h1:b=true→Ok m Q)(h2:b=false→Ok n Q):Ok (bif b then m else n) Q:=by
 cases b with
 | true=>exact h1 rfl
 | false=>exact h2 rfl
theorem Kds{b:Bool}{m:Option α}{Q:α→Prop}(hb:b=true)(h:Ok m Q):Ok (gd b m) Q:=by subst hb;exact h
theorem Kdt{f:Nat→α→σ→Option σ}{l:List α}{s:σ}(I:Nat→σ→Prop)(h0:I 0 s)(step:∀ (i:Nat) (x:α) (s:σ),l[i]?=some x→I i s→Ok (f i x s) (I (i+1))):Ok (rangeF f 0 l s) (I l.length):=by
 obtain⟨r,h1,h2⟩:=Lbn l I step l 0 s rfl h0
 exact⟨r,h1,by simpa using h2⟩
theorem Kdu{f:Nat→σ→Option σ}{n:Int}{s:σ}(I:Nat→σ→Prop)(h0:I 0 s)(step:∀ (i:Nat) (s:σ),i<n.toNat→I i s→Ok (f i s) (I (i+1))):Ok (rangeG f n s) (I n.toNat):=Lbp I h0 step
theorem Kdv{f:Nat→α→σ→Option (LS σ ρ)}{l:List α}{s:σ}(I:Nat→σ→Prop)(Q:ρ→Prop)(h0:I 0 s)
  (step:∀ (i:Nat) (x:α) (s:σ),l[i]?=some x→I i s→Ok (f i x s) fun r=>match r with | .go s'=>I (i+1) s' | .out q=>Q q):Ok (rangeM f 0 l s) fun r=>match r with | .go s'=>I l.length s' | .out q=>Q q:=by
 rcases Lbr l I Q (fun i x s hx hi=>by
  obtain⟨r,h1,h2⟩:=step i x s hx hi
  cases r with
  | go s'=>exact .inl ⟨s',h1,h2⟩
  | out q=>exact .inr ⟨q,h1,h2⟩) l 0 s rfl h0 with⟨s',h1,h2⟩ | ⟨q,h1,h2⟩
 ·exact⟨_,h1,by simpa using h2⟩
 ·exact⟨_,h1,h2⟩
theorem Kdw{f:σ→Option (LS σ ρ)}{k:Nat}{s:σ}(I:σ→Prop)(μ:σ→Nat)(Q:ρ→Prop)(h0:I s)(hk:μ s<k)(step:∀ s,I s→Ok (f s) fun r=>match r with | .go s'=>I s'∧μ s'<μ s | .out q=>Q q):Ok (loopM f k s) Q:=
 Lbl I μ Q (fun s hi=>by
  obtain⟨r,h1,h2⟩:=step s hi
  cases r with
  | go s'=>exact .inr ⟨s',h1,h2.1,h2.2⟩
  | out q=>exact .inl ⟨q,h1,h2⟩) k s hk h0
theorem Kdx{l:List α}{i:Int}{j:Nat}{x:α}{g:α→Option β}{Q:β→Prop}(hi:i=(j:Int))(h:l[j]?=some x)(k:Ok (g x) Q):Ok (bi (getZ l i) g) Q:=Kdp (Lcc hi h) k
theorem Kdy{a b:List α}{g:List α→Option β}{Q:β→Prop}(h:a.length+b.length≤4294967296)(k:Ok (g (a++b)) Q):Ok (bi (apd a b) g) Q:=Kdp (Lbe h) k
theorem Kdz{r:α}{q:β}{R:α→β→Prop}(h:R r q):Two (some r) (some q) R:=⟨r,q,rfl,rfl,h⟩
theorem Kea{m:Option α}{g:α→Option γ}{n:Option β}{P:α→Prop}{R:γ→β→Prop}(h:Ok m P)(k:∀ r,P r→Two (g r) n R):Two (bi m g) n R:=by
 obtain⟨r,rfl,hr⟩:=h
 exact k r hr
theorem Keb{m:Option α}{g:β→Option γ}{n:Option β}{P:β→Prop}{R:α→γ→Prop}(h:Ok n P)(k:∀ r,P r→Two m (g r) R):Two m (bi n g) R:=by
 obtain⟨r,rfl,hr⟩:=h
 exact k r hr
theorem Kec{m:Option α}{g:α→Option γ}{n:Option β}{r:α}{R:γ→β→Prop}(h:m=some r)(k:Two (g r) n R):Two (bi m g) n R:=by subst h;exact k
theorem Ked{m:Option α}{g:β→Option γ}{n:Option β}{r:β}{R:α→γ→Prop}(h:n=some r)(k:Two m (g r) R):Two m (bi n g) R:=by subst h;exact k
theorem Kee{m:Option α}{n:Option β}{g:α→Option γ}{h:β→Option δ}{P:α→β→Prop}{R:γ→δ→Prop}(hm:Two m n P)(k:∀ r q,P r q→Two (g r) (h q) R):Two (bi m g) (bi n h) R:=by
 obtain⟨r,q,rfl,rfl,hr⟩:=hm
 exact k r q hr
theorem Kef{m:Option α}{n:Option β}{P R:α→β→Prop}(h:Two m n P)(k:∀ r q,P r q→R r q):Two m n R:=let ⟨r,q,h1,h2,h3⟩:=h;⟨r,q,h1,h2,k r q h3⟩
theorem Keg{b c:Bool}{m m':Option α}{n n':Option β}{R:α→β→Prop}(hbc:b=c)(h1:b=true→Two m n R)(h2:b=false→Two m' n' R):Two (bif b then m else m') (bif c then n else n') R:=by
 subst hbc
 cases b with
 | true=>exact h1 rfl
 | false=>exact h2 rfl
theorem Keh{b:Bool}{m m':Option α}{n:Option β}{R:α→β→Prop}(h1:b=true→Two m n R)(h2:b=false→Two m' n R):Two (bif b then m else m') n R:=by
 cases b with
 | true=>exact h1 rfl
 | false=>exact h2 rfl
theorem Kei{b:Bool}{m:Option α}{n n':Option β}{R:α→β→Prop}(h1:b=true→Two m n R)(h2:b=false→Two m n' R):Two m (bif b then n else n') R:=by
 cases b with
 | true=>exact h1 rfl
 | false=>exact h2 rfl
theorem Kej{m:Option α}{n:Option β}{P:α→Prop}{R:α→β→Prop}(h:Ok m P)(k:∀ r,P r→Ok n (R r)):Two m n R:=by
 obtain⟨r,h1,h2⟩:=h
 obtain⟨q,h3,h4⟩:=k r h2
 exact⟨r,q,h1,h3,h4⟩
def LSR(I:σ→τ→Prop)(Q:ρ→ρ'→Prop):LS σ ρ→LS τ ρ'→Prop
 | .go s,.go t=>I s t
 | .out r,.out q=>Q r q
 | _,_=>False
theorem Kek{f:Nat→α→σ→Option (LS σ ρ)}{g:Nat→α→τ→Option (LS τ ρ')}{l:List α}{s:σ}{t:τ}(I:Nat→σ→τ→Prop)(Q:ρ→ρ'→Prop)(h0:I 0 s t)
  (step:∀ (i:Nat) (x:α) (s:σ) (t:τ),l[i]?=some x→I i s t→Two (f i x s) (g i x t) (LSR (I (i+1)) Q)):Two (rangeM f 0 l s) (rangeM g 0 l t) (LSR (I l.length) Q):=by
 rcases Lbs l I Q (fun i x s t hx hi=>by
  obtain⟨r,q,h1,h2,h3⟩:=step i x s t hx hi
  cases r<;>cases q<;>first | exact h3.elim | exact .inl ⟨_,_,h1,h2,h3⟩ | exact .inr ⟨_,_,h1,h2,h3⟩) l 0 s t rfl h0 with⟨s',t',h1,h2,h3⟩ | ⟨r,q,h1,h2,h3⟩
 ·exact⟨_,_,h1,h2,by simpa [LSR] using h3⟩
 ·exact⟨_,_,h1,h2,h3⟩
theorem Kel{f:Nat→α→σ→Option σ}{g:Nat→α→τ→Option τ}{l:List α}{s:σ}{t:τ}(I:Nat→σ→τ→Prop)(h0:I 0 s t)
  (step:∀ (i:Nat) (x:α) (s:σ) (t:τ),l[i]?=some x→I i s t→Two (f i x s) (g i x t) (I (i+1))):Two (rangeF f 0 l s) (rangeF g 0 l t) (I l.length):=by
 obtain⟨s',t',h1,h2,h3⟩:=Lbu l I (fun i x s t hx hi=>by
  obtain⟨r,q,h1,h2,h3⟩:=step i x s t hx hi
  exact⟨r,q,h1,h2,h3⟩) l 0 s t rfl h0
 exact⟨_,_,h1,h2,by simpa using h3⟩
theorem Kem{m n:Option α}(h:Two m n fun r q=>r=q):∃ r,m=some r∧n=some r:=by
 obtain⟨r,q,h1,h2,rfl⟩:=h
 exact⟨r,h1,h2⟩
end
theorem Ken(l:List Int)(a:Int)(xs:List Str)(hl:l.length≤9223372036854775807)(h0:0≤a)(h1:a<4611686018427387904)(hn:1≤xs.length)(hn2:xs.length≤1000) :
  ∃ x,x∈xs∧Ldj ⟨l,a⟩ xs=some (x,⟨l,a+1⟩):=by
 obtain⟨r,r0,r1,h⟩:=Lba l a xs.length hl h0 h1 (by omega) (by omega)
 obtain⟨x,hx,e⟩:=Lbc xs r0 r1
 exact⟨x,hx,by unfold Ldj;rw[h];simp only[bi_some,e]⟩
def At(l:List Int)(a b:Int)(s:Lcu):Prop:=s.L=l∧a≤s.v_at∧s.v_at≤b
theorem At.eq{l:List Int}{a b:Int}{s:Lcu}(h:At l a b s):s=⟨l,s.v_at⟩:=by rw[←h.1]
theorem At.up{l:List Int}{a b a' b':Int}{s:Lcu}(h:At l a b s)(h1:a'≤a)(h2:b≤b'):At l a' b' s:=⟨h.1,by have:=h.2.1;omega,by have:=h.2.2;omega⟩
theorem Keo{l:List Int}{a b:Int}{s:Lcu}(h:At l a b s)(n:Int)(hl:l.length≤9223372036854775807)(h0:0≤a)(h1:b<4611686018427387904)(hn:1≤n)(hn2:n≤4611686018427387904) :
  Ok (Ldi s n) fun r=>At l (a+1) (b+1) r.2:=by
 obtain⟨e1,e2,e3⟩:=h
 obtain⟨c,hc⟩:=Lbb l s.v_at n hl (by omega) (by omega) hn hn2
 rw[←e1] at hc
 exact⟨_,hc,e1,by simp only;omega,by simp only;omega⟩
theorem Kep{l:List Int}{a b:Int}{s:Lcu}(h:At l a b s)(xs:List Int)(hl:l.length≤9223372036854775807)(h0:0≤a)(h1:b<4611686018427387904)(hn:1≤xs.length)(hn2:xs.length≤1000) :
  Ok (Ldh s xs) fun r=>r.1∈xs∧At l (a+1) (b+1) r.2:=by
 obtain⟨e1,e2,e3⟩:=h
 obtain⟨c,hc,hp⟩:=Lbd l s.v_at xs hl (by omega) (by omega) hn hn2
 rw[←e1] at hp
 exact⟨_,hp,hc,e1,by simp only;omega,by simp only;omega⟩
theorem Keq{l:List Int}{a b:Int}{s:Lcu}(h:At l a b s)(xs:List Str)(hl:l.length≤9223372036854775807)(h0:0≤a)(h1:b<4611686018427387904)(hn:1≤xs.length)(hn2:xs.length≤1000) :
  Ok (Ldj s xs) fun r=>r.1∈xs∧At l (a+1) (b+1) r.2:=by
 obtain⟨e1,e2,e3⟩:=h
 obtain⟨c,hc,hp⟩:=Ken l s.v_at xs hl (by omega) (by omega) hn hn2
 rw[←e1] at hp
 exact⟨_,hp,hc,e1,by simp only;omega,by simp only;omega⟩
theorem Ker{l:List Int}{a b:Int}{s:Lcu}(h:At l a b s)(lo hi:Int)(hl:l.length≤9223372036854775807)(h0:0≤a)(h1:b<4611686018427387904)(h2:lo≤hi)(h3 : -1000000000≤lo)(h4:hi≤1000000000) :
  Ok (Ldm s lo hi) fun r=>lo≤r.1∧r.1≤hi∧At l (a+1) (b+1) r.2:=by
 obtain⟨e1,e2,e3⟩:=h
 obtain⟨c,c1,c2,hp⟩:=Lbf l s.v_at lo hi hl (by omega) (by omega) h2 h3 h4
 rw[←e1] at hp
 exact⟨_,hp,c1,c2,e1,by simp only;omega,by simp only;omega⟩
theorem Kes{l:List Int}{a b:Int}{s:Lcu}(h:At l a b s)(lo hi:Int)(hl:l.length≤9223372036854775807)(h0:0≤a)(h1:b<4611686018427370000)(h2:lo≤hi)(h3 : -1000000000≤lo)(h4:hi≤1000000000) :
  Ok (Ldn s lo hi) fun r=>At l a (b+5) r.2:=by
 obtain⟨e1,e2,e3⟩:=h
 obtain⟨c,a',_,c1,c2,hp⟩:=oddD l s.v_at lo hi hl (by omega) (by omega) h2 h3 h4
 rw[←e1] at hp
 exact⟨_,hp,e1,by simp only;omega,by simp only;omega⟩
end Go.Gk
