import Derived.Test.YtmecneoeklldeaaGreatDoorXCM
set_option linter.all false
namespace Go.Gk
theorem Kub{σ ρ:Type}{f:σ→Option (LS σ ρ)}(I:σ→Prop)(μ:σ→Nat)(Q:ρ→Prop)(step:∀ s,I s→(∃ r,f s=some (.out r)∧Q r)∨(∃ s',f s=some (.go s')∧I s'∧μ s'<μ s)) :
  ∀ (k:Nat) (s:σ),μ s<k→I s→∃ r,loopM f k s=some r∧Q r
 | 0,s,hk,_=>absurd hk (Nat.not_lt_zero _)
 | k+1,s,hk,h=>by
  rcases step s h with⟨r,e,q⟩ | ⟨s',e,i,m⟩
  ·exact⟨r,by simp only[loopM,e],q⟩
  ·obtain⟨r,e2,q⟩:=Kub I μ Q step k s' (by omega) i
   exact⟨r,by simp only[loopM,e];exact e2,q⟩
theorem Kuc{σ ρ β:Type}{f:σ→Option (LS σ ρ)}{g:ρ→Option β}{k:Nat}{s:σ}{v:β}(I:σ→Prop)(μ:σ→Nat)(Q:ρ→Prop)
  (step:∀ s,I s→(∃ r,f s=some (.out r)∧Q r)∨(∃ s',f s=some (.go s')∧I s'∧μ s'<μ s)) (h0:I s) (hk:μ s<k) (hg:∀ r,Q r→g r=some v):bi (loopM f k s) g=some v:=by
 obtain⟨r,h1,h2⟩:=Kub I μ Q step k s hk h0
 rw[h1];exact hg r h2
theorem Kud{α σ:Type}{f:Nat→α→σ→Option σ}(L:List α)(I:Nat→σ→Prop)(step:∀ (i:Nat) (x:α) (s:σ),L[i]?=some x→I i s→∃ s',f i x s=some s'∧I (i+1) s') :
  ∀ (l:List α) (i:Nat) (s:σ),L.drop i=l→I i s→∃ r,rangeF f i l s=some r∧I (i+l.length) r
 | [],i,s,_,h=>⟨s,rfl,h⟩
 | x :: l,i,s,hd,h=>by
  have hx:L[i]?=some x:=by have:=congrArg (fun q=>q[0]?) hd;simpa using this
  obtain⟨s',h1,h2⟩:=step i x s hx h
  obtain⟨r,h3,h4⟩:=Kud L I step l (i+1) s' (by rw[←List.drop_drop,hd];rfl) h2
  refine⟨r,by simp only[rangeF,h1,bi_some,h3],?_⟩
  rw[List.length_cons,show i+(l.length+1)=i+1+l.length by omega]
  exact h4
theorem Kue{σ:Type}{f:Nat→σ→Option σ}{n:Int}{s:σ}(I:Nat→σ→Prop)(h0:I 0 s)
  (step:∀ (i:Nat) (s:σ),i<n.toNat→I i s→∃ s',f i s=some s'∧I (i+1) s'):∃ r,rangeG f n s=some r∧I n.toNat r:=by
 obtain⟨r,h1,h2⟩:=Kud (f:=fun i (_:Unit) s=>f i s) (List.replicate n.toNat ()) I (fun i x s hx hi=>step i s (by have:=(gEs.1 hx).1;simpa using this) hi) (List.replicate n.toNat ()) 0 s rfl h0
 exact⟨r,h1,by simpa using h2⟩
theorem Kuf{α σ τ:Type}{f:Nat→α→σ→Option σ}{g:Nat→α→τ→Option τ}(L:List α)(I:Nat→σ→τ→Prop)
  (step:∀ (i:Nat) (x:α) (s:σ) (t:τ),L[i]?=some x→I i s t→∃ s' t',f i x s=some s'∧g i x t=some t'∧I (i+1) s' t') :
  ∀ (l:List α) (i:Nat) (s:σ) (t:τ),L.drop i=l→I i s t→∃ s' t',rangeF f i l s=some s'∧rangeF g i l t=some t'∧I (i+l.length) s' t'
 | [],i,s,t,_,h=>⟨s,t,rfl,rfl,h⟩
 | x :: l,i,s,t,hd,h=>by
  have hx:L[i]?=some x:=by have:=congrArg (fun q=>q[0]?) hd;simpa using this
  obtain⟨s',t',h1,h1',h2⟩:=step i x s t hx h
  obtain⟨s2,t2,h3,h3',h4⟩:=Kuf L I step l (i+1) s' t' (by rw[←List.drop_drop,hd];rfl) h2
  refine⟨s2,t2,by simp only[rangeF,h1,bi_some,h3],by simp only[rangeF,h1',bi_some,h3'],?_⟩
  rw[List.length_cons,show i+(l.length+1)=i+1+l.length by omega]
  exact h4
theorem Kug{α:Type}{l:List α}{i j:Nat}(h1:i≤j)(h2:j≤l.length):subZ l (i:Int) (j:Int)=some ((l.take j).drop i):=by
 unfold subZ
 rw[dT (show(0:Int)≤i by omega),dT (show(i:Int)≤j by omega),dT (show(j:Int)≤(l.length:Int) by omega)]
 rfl
theorem Kuh{α:Type}{l:List α}{i:Nat}{x:α}(h:l[i]?=some x):getZ l (i:Int)=some x:=by rw[getZ_cast];exact h
end Go.Gk
