import Derived.Test.YtcihhlhmkcaeeaaGreatDoorXPM
set_option linter.all false
set_option maxRecDepth 100000
namespace Go.Gk
theorem Kty{σ ρ:Type}{f:σ→Option (LS σ ρ)}(I:σ→Prop)(μ:σ→Nat)(Q:ρ→Prop)(step:∀ s,I s→(∃ r,f s=some (.out r)∧Q r)∨(∃ s',f s=some (.go s')∧I s'∧μ s'<μ s)) :
  ∀ (k:Nat) (s:σ),μ s<k→I s→∃ r,loopM f k s=some r∧Q r
 | 0,s,hk,_=>absurd hk (Nat.not_lt_zero _)
 | k+1,s,hk,h=>by
  rcases step s h with⟨r,e,q⟩ | ⟨s',e,i,m⟩
  ·exact⟨r,by simp only[loopM,e],q⟩
  ·obtain⟨r,e2,q⟩:=Kty I μ Q step k s' (by omega) i
   exact⟨r,by simp only[loopM,e];exact e2,q⟩
theorem Ktz{σ ρ β:Type}{f:σ→Option (LS σ ρ)}{g:ρ→Option β}{k:Nat}{s:σ}{v:β}(I:σ→Prop)(μ:σ→Nat)(Q:ρ→Prop)
  (step:∀ s,I s→(∃ r,f s=some (.out r)∧Q r)∨(∃ s',f s=some (.go s')∧I s'∧μ s'<μ s)) (h0:I s) (hk:μ s<k) (hg:∀ r,Q r→g r=some v):bi (loopM f k s) g=some v:=by
 obtain⟨r,h1,h2⟩:=Kty I μ Q step k s hk h0
 rw[h1];exact hg r h2
theorem Kua{α σ:Type}{f:Nat→α→σ→Option σ}(L:List α)(I:Nat→σ→Prop)(step:∀ (i:Nat) (x:α) (s:σ),L[i]?=some x→I i s→∃ s',f i x s=some s'∧I (i+1) s') :
  ∀ (l:List α) (i:Nat) (s:σ),L.drop i=l→I i s→∃ r,rangeF f i l s=some r∧I (i+l.length) r
 | [],i,s,_,h=>⟨s,rfl,h⟩
 | x :: l,i,s,hd,h=>by
  have hx:L[i]?=some x:=by have:=congrArg (fun q=>q[0]?) hd;simpa using this
  obtain⟨s',h1,h2⟩:=step i x s hx h
  obtain⟨r,h3,h4⟩:=Kua L I step l (i+1) s' (by rw[←List.drop_drop,hd];rfl) h2
  refine⟨r,by simp only[rangeF,h1,bi_some,h3],?_⟩
  rw[List.length_cons,show i+(l.length+1)=i+1+l.length by omega]
  exact h4
theorem Kub{σ:Type}{f:Nat→σ→Option σ}{n:Int}{s:σ}(I:Nat→σ→Prop)(h0:I 0 s)
  (step:∀ (i:Nat) (s:σ),i<n.toNat→I i s→∃ s',f i s=some s'∧I (i+1) s'):∃ r,rangeG f n s=some r∧I n.toNat r:=by
 obtain⟨r,h1,h2⟩:=Kua (f:=fun i (_:Unit) s=>f i s) (List.replicate n.toNat ()) I (fun i x s hx hi=>step i s (by have:=(gEs.1 hx).1;simpa using this) hi) (List.replicate n.toNat ()) 0 s rfl h0
 exact⟨r,h1,by simpa using h2⟩
theorem Kuc{α σ ρ:Type}{f:Nat→α→σ→Option (LS σ ρ)}(L:List α)(I:Nat→σ→Prop)(Q:ρ→Prop)(step:∀ (i:Nat) (x:α) (s:σ),L[i]?=some x→I i s→(∃ s',f i x s=some (.go s')∧I (i+1) s')∨∃ r,f i x s=some (.out r)∧Q r) :
  ∀ (l:List α) (i:Nat) (s:σ),L.drop i=l→I i s→(∃ s',rangeM f i l s=some (.go s')∧I (i+l.length) s')∨∃ r,rangeM f i l s=some (.out r)∧Q r
 | [],i,s,_,h=>.inl ⟨s,rfl,h⟩
 | x :: l,i,s,hd,h=>by
  have hx:L[i]?=some x:=by have:=congrArg (fun q=>q[0]?) hd;simpa using this
  rcases step i x s hx h with⟨s',h1,h2⟩ | ⟨r,h1,h2⟩
  ·rcases Kuc L I Q step l (i+1) s' (by rw[←List.drop_drop,hd];rfl) h2 with⟨s2,h3,h4⟩ | ⟨r,h3,h4⟩
   ·refine .inl ⟨s2,by simp only[rangeM,h1,h3],?_⟩
    rw[List.length_cons,show i+(l.length+1)=i+1+l.length by omega]
    exact h4
   ·exact .inr ⟨r,by simp only[rangeM,h1,h3],h4⟩
  ·exact .inr ⟨r,by simp only[rangeM,h1],h2⟩
theorem Kud{α:Type}{l:List α}{i j:Nat}(h1:i≤j)(h2:j≤l.length):subZ l (i:Int) (j:Int)=some ((l.take j).drop i):=by
 unfold subZ
 rw[dT (show(0:Int)≤i by omega),dT (show(i:Int)≤j by omega),dT (show(j:Int)≤(l.length:Int) by omega)]
 rfl
theorem Kue{α:Type}{l:List α}{i:Nat}{x:α}(h:l[i]?=some x):getZ l (i:Int)=some x:=by rw[getZ_cast];exact h
theorem Kuf{α:Type}{l:List α}{i:Int}{j:Nat}{x:α}(hi:i=(j:Int))(h:l[j]?=some x):getZ l i=some x:=by subst hi;exact Kue h
end Go.Gk
namespace Go.Gk
theorem Ktq{n:Int}(h1 : -9223372036854775808≤n)(h2:n≤9223372036854775807):wi n=n:=w64 ⟨h1,h2⟩
theorem Ktr(x n:Int)(hn:1≤n)(hn2:n≤4611686018427387904):∃ r,0≤r∧r<n∧Kxw x n=some r:=by
 have h1:x.tmod n<n:=Int.tmod_lt_of_pos x (by omega)
 have h2 : -n<x.tmod n:=by
  have:=Int.tmod_lt_of_pos (-x) (show 0<n by omega)
  rw[Int.neg_tmod] at this
  omega
 unfold Kxw remZ
 rw[dF (show ¬ n<1 by omega),dF (show ¬ n=0 by omega)]
 simp only[cond_false,bi_some]
 by_cases h:x.tmod n<0
 ·rw[dT h]
  exact⟨x.tmod n+n,by omega,by omega,by simp only[cond_true,bi_some];rw[Ktq (by omega) (by omega)]⟩
 rw[dF h]
 exact⟨x.tmod n,by omega,h1,rfl⟩
theorem Kts(l:List Int)(a n:Int)(hl:l.length≤9223372036854775807)(h0:0≤a)(h1:a<4611686018427387904)(hn:1≤n)(hn2:n≤4611686018427387904) :
  ∃ r,0≤r∧r<n∧Kxx ⟨l,a⟩ n=some (r,⟨l,a+1⟩):=by
 unfold Kxx
 have hw:wi (a+1)=a+1:=Ktq (by omega) (by omega)
 have hw1:wi (a+1 - 1)=a:=by rw[Ktq (by omega) (by omega)];omega
 simp only[hw,hw1]
 by_cases hne:l.length=0
 ·obtain⟨r,r0,r1,hr⟩:=Ktr (wi ((a+1) * 7919)) n hn hn2
  exact⟨r,r0,r1,by simp[hne,hr]⟩
 ·have hk:a.toNat % l.length<l.length:=Nat.mod_lt _ (by omega)
  have hkk:a.tmod (l.length:Int)=((a.toNat % l.length:Nat):Int):=by
   rw[Int.tmod_eq_emod_of_nonneg h0,Int.natCast_emod,Int.toNat_of_nonneg h0]
  have hne':¬ (l.length:Int)=0:=by omega
  obtain⟨r1,_,_,e1⟩:=Ktr l[a.toNat % l.length] 1073741824 (by decide) (by decide)
  obtain⟨r,r0,r1,hr⟩:=Ktr (wi (r1+wi (wi (a.tdiv (l.length:Int)) * wi (7919+((a.toNat % l.length:Nat):Int))))) n hn hn2
  refine⟨r,r0,r1,?_⟩
  have:((l.length:Int)==0)=false:=by simpa using hne'
  rw[this]
  simp only[cond_false,remZ,divZ,decide_eq_false hne',bi_some,hkk,getZ_cast,List.getElem?_eq_getElem hk,e1]
  rw[show IntKind.i64.wrap (a.tdiv (l.length:Int))=wi (a.tdiv (l.length:Int)) from rfl,hr]
  rfl
theorem Ktt(l:List Int)(a n:Int)(hl:l.length≤9223372036854775807)(h0:0≤a)(h1:a<4611686018427387904)(hn:1≤n)(hn2:n≤4611686018427387904) :
  ∃ b,Kxy ⟨l,a⟩ n=some (b,⟨l,a+1⟩):=by
 obtain⟨r,_,_,h⟩:=Kts l a n hl h0 h1 hn hn2
 exact⟨_,by unfold Kxy;rw[h];rfl⟩
theorem Ktu{α:Type}(xs:List α){r:Int}(h0:0≤r)(h1:r<xs.length):∃ x,x∈xs∧getZ xs r=some x:=by
 obtain⟨k,rfl⟩:=Int.eq_ofNat_of_zero_le h0
 exact⟨xs[k],List.getElem_mem _,by rw[getZ_cast,gGe (by omega)]⟩
theorem Ktv(l:List Int)(a:Int)(xs:List Int)(hl:l.length≤9223372036854775807)(h0:0≤a)(h1:a<4611686018427387904)(hn:1≤xs.length)(hn2:xs.length≤1000) :
  ∃ x,x∈xs∧Kyc ⟨l,a⟩ xs=some (x,⟨l,a+1⟩):=by
 obtain⟨r,r0,r1,h⟩:=Kts l a xs.length hl h0 h1 (by omega) (by omega)
 obtain⟨x,hx,e⟩:=Ktu xs r0 r1
 exact⟨x,hx,by unfold Kyc;rw[h];simp only[bi_some,e]⟩
theorem Ktw{α:Type}{a b:List α}(h:a.length+b.length≤4294967296):apd a b=some (a++b):=by unfold apd;rw[Nat.ble_eq_true_of_le h];rfl
def Dr{α:Type}(l:List Int)(a:Int)(n:Int)(m:Option (α×Kxc))(p:α→Prop):Prop:=∃ x a',p x∧a≤a'∧a'≤a+n∧m=some (x,⟨l,a'⟩)
theorem Ktx(l:List Int)(a lo hi:Int)(hl:l.length≤9223372036854775807)(h0:0≤a)(h1:a<4611686018427387904)(h2:lo≤hi)(h3 : -1000000000≤lo)(h4:hi≤1000000000) :
  ∃ r,lo≤r∧r≤hi∧Kyf ⟨l,a⟩ lo hi=some (r,⟨l,a+1⟩):=by
 unfold Kyf
 have w1:wi (hi - lo)=hi - lo:=Ktq (by omega) (by omega)
 have w2:wi (hi - lo+1)=hi - lo+1:=Ktq (by omega) (by omega)
 obtain⟨r,r0,r1,hr⟩:=Kts l a (hi - lo+1) hl h0 h1 (by omega) (by omega)
 refine⟨lo+r,by omega,by omega,?_⟩
 rw[dF (show ¬ hi<lo by omega),w1,w2,hr]
 simp only[cond_false,bi_some]
 rw[Ktq (by omega) (by omega)]
end Go.Gk
namespace Go.Gk
theorem Kai{σ ρ:Type}{f:σ→Option (LS σ ρ)}{k:Nat}{s:σ}(s':σ)(h:f s=some (.go s')):loopM f (k+1) s=loopM f k s':=by simp only[loopM,h]
theorem Kaj{σ ρ:Type}{f:σ→Option (LS σ ρ)}{k:Nat}{s:σ}(r:ρ)(h:f s=some (.out r)):loopM f (k+1) s=some r:=by simp only[loopM,h]
def Ok{α:Type}(m:Option α)(Q:α→Prop):Prop:=∃ r,m=some r∧Q r
def Two{α β:Type}(m:Option α)(n:Option β)(R:α→β→Prop):Prop:=∃ r q,m=some r∧n=some q∧R r q
section
variable{α β γ δ σ τ ρ ρ':Type}
theorem Kak{r:α}{Q:α→Prop}(h:Q r):Ok (some r) Q:=⟨r,rfl,h⟩
theorem Kal{m:Option α}{g:α→Option β}{P:α→Prop}{Q:β→Prop}(h:Ok m P)(k:∀ r,P r→Ok (g r) Q):Ok (bi m g) Q:=by
 obtain⟨r,rfl,hr⟩:=h
 exact k r hr
theorem Kam{m:Option α}{g:α→Option β}{r:α}{Q:β→Prop}(h:m=some r)(k:Ok (g r) Q):Ok (bi m g) Q:=by subst h;exact k
theorem Kan{m:Option α}{P Q:α→Prop}(h:Ok m P)(k:∀ r,P r→Q r):Ok m Q:=let ⟨r,h1,h2⟩:=h;⟨r,h1,k r h2⟩
theorem Kao{b:Bool}{m n:Option α}{Q:α→Prop}(h1:b=true→Ok m Q)(h2:b=false→Ok n Q):Ok (bif b then m else n) Q:=by
 cases b with
 | true=>exact h1 rfl
 | false=>exact h2 rfl
theorem Kap{b:Bool}{m:Option α}{Q:α→Prop}(hb:b=true)(h:Ok m Q):Ok (gd b m) Q:=by subst hb;exact h
theorem Kaq{f:Nat→α→σ→Option σ}{l:List α}{s:σ}(I:Nat→σ→Prop)(h0:I 0 s)(step:∀ (i:Nat) (x:α) (s:σ),l[i]?=some x→I i s→Ok (f i x s) (I (i+1))):Ok (rangeF f 0 l s) (I l.length):=by
 obtain⟨r,h1,h2⟩:=Kua l I step l 0 s rfl h0
 exact⟨r,h1,by simpa using h2⟩
theorem Kar{f:Nat→σ→Option σ}{n:Int}{s:σ}(I:Nat→σ→Prop)(h0:I 0 s)(step:∀ (i:Nat) (s:σ),i<n.toNat→I i s→Ok (f i s) (I (i+1))):Ok (rangeG f n s) (I n.toNat):=Kub I h0 step
theorem Kas{f:Nat→α→σ→Option (LS σ ρ)}{l:List α}{s:σ}(I:Nat→σ→Prop)(Q:ρ→Prop)(h0:I 0 s)
  (step:∀ (i:Nat) (x:α) (s:σ),l[i]?=some x→I i s→Ok (f i x s) fun r=>match r with | .go s'=>I (i+1) s' | .out q=>Q q):Ok (rangeM f 0 l s) fun r=>match r with | .go s'=>I l.length s' | .out q=>Q q:=by
 rcases Kuc l I Q (fun i x s hx hi=>by
  obtain⟨r,h1,h2⟩:=step i x s hx hi
  cases r with
  | go s'=>exact .inl ⟨s',h1,h2⟩
  | out q=>exact .inr ⟨q,h1,h2⟩) l 0 s rfl h0 with⟨s',h1,h2⟩ | ⟨q,h1,h2⟩
 ·exact⟨_,h1,by simpa using h2⟩
 ·exact⟨_,h1,h2⟩
theorem Kat{f:σ→Option (LS σ ρ)}{k:Nat}{s:σ}(I:σ→Prop)(μ:σ→Nat)(Q:ρ→Prop)(h0:I s)(hk:μ s<k)(step:∀ s,I s→Ok (f s) fun r=>match r with | .go s'=>I s'∧μ s'<μ s | .out q=>Q q):Ok (loopM f k s) Q:=
 Kty I μ Q (fun s hi=>by
  obtain⟨r,h1,h2⟩:=step s hi
  cases r with
  | go s'=>exact .inr ⟨s',h1,h2.1,h2.2⟩
  | out q=>exact .inl ⟨q,h1,h2⟩) k s hk h0
theorem Kau{l:List α}{i:Int}{j:Nat}{x:α}{g:α→Option β}{Q:β→Prop}(hi:i=(j:Int))(h:l[j]?=some x)(k:Ok (g x) Q):Ok (bi (getZ l i) g) Q:=Kam (Kuf hi h) k
theorem Kav{a b:List α}{g:List α→Option β}{Q:β→Prop}(h:a.length+b.length≤4294967296)(k:Ok (g (a++b)) Q):Ok (bi (apd a b) g) Q:=Kam (Ktw h) k
def LSR(I:σ→τ→Prop)(Q:ρ→ρ'→Prop):LS σ ρ→LS τ ρ'→Prop
 | .go s,.go t=>I s t
 | .out r,.out q=>Q r q
 | _,_=>False
end
theorem Kaw(l:List Int)(a:Int)(xs:List Str)(hl:l.length≤9223372036854775807)(h0:0≤a)(h1:a<4611686018427387904)(hn:1≤xs.length)(hn2:xs.length≤1000) :
  ∃ x,x∈xs∧Kxz ⟨l,a⟩ xs=some (x,⟨l,a+1⟩):=by
 obtain⟨r,r0,r1,h⟩:=Kts l a xs.length hl h0 h1 (by omega) (by omega)
 obtain⟨x,hx,e⟩:=Ktu xs r0 r1
 exact⟨x,hx,by unfold Kxz;rw[h];simp only[bi_some,e]⟩
def At(l:List Int)(a b:Int)(s:Kxc):Prop:=s.L=l∧a≤s.v_at∧s.v_at≤b
theorem At.eq{l:List Int}{a b:Int}{s:Kxc}(h:At l a b s):s=⟨l,s.v_at⟩:=by rw[←h.1]
theorem At.up{l:List Int}{a b a' b':Int}{s:Kxc}(h:At l a b s)(h1:a'≤a)(h2:b≤b'):At l a' b' s:=⟨h.1,by have:=h.2.1;omega,by have:=h.2.2;omega⟩
theorem Kax{l:List Int}{a b:Int}{s:Kxc}(h:At l a b s)(n:Int)(hl:l.length≤9223372036854775807)(h0:0≤a)(h1:b<4611686018427387904)(hn:1≤n)(hn2:n≤4611686018427387904) :
  Ok (Kxy s n) fun r=>At l (a+1) (b+1) r.2:=by
 obtain⟨e1,e2,e3⟩:=h
 obtain⟨c,hc⟩:=Ktt l s.v_at n hl (by omega) (by omega) hn hn2
 rw[←e1] at hc
 exact⟨_,hc,e1,by simp only;omega,by simp only;omega⟩
theorem Kay{l:List Int}{a b:Int}{s:Kxc}(h:At l a b s)(xs:List Int)(hl:l.length≤9223372036854775807)(h0:0≤a)(h1:b<4611686018427387904)(hn:1≤xs.length)(hn2:xs.length≤1000) :
  Ok (Kyc s xs) fun r=>r.1∈xs∧At l (a+1) (b+1) r.2:=by
 obtain⟨e1,e2,e3⟩:=h
 obtain⟨c,hc,hp⟩:=Ktv l s.v_at xs hl (by omega) (by omega) hn hn2
 rw[←e1] at hp
 exact⟨_,hp,hc,e1,by simp only;omega,by simp only;omega⟩
theorem Kaz{l:List Int}{a b:Int}{s:Kxc}(h:At l a b s)(xs:List Str)(hl:l.length≤9223372036854775807)(h0:0≤a)(h1:b<4611686018427387904)(hn:1≤xs.length)(hn2:xs.length≤1000) :
  Ok (Kxz s xs) fun r=>r.1∈xs∧At l (a+1) (b+1) r.2:=by
 obtain⟨e1,e2,e3⟩:=h
 obtain⟨c,hc,hp⟩:=Kaw l s.v_at xs hl (by omega) (by omega) hn hn2
 rw[←e1] at hp
 exact⟨_,hp,hc,e1,by simp only;omega,by simp only;omega⟩
theorem Kba{l:List Int}{a b:Int}{s:Kxc}(h:At l a b s)(lo hi:Int)(hl:l.length≤9223372036854775807)(h0:0≤a)(h1:b<4611686018427387904)(h2:lo≤hi)(h3 : -1000000000≤lo)(h4:hi≤1000000000) :
  Ok (Kyf s lo hi) fun r=>lo≤r.1∧r.1≤hi∧At l (a+1) (b+1) r.2:=by
 obtain⟨e1,e2,e3⟩:=h
 obtain⟨c,c1,c2,hp⟩:=Ktx l s.v_at lo hi hl (by omega) (by omega) h2 h3 h4
 rw[←e1] at hp
 exact⟨_,hp,c1,c2,e1,by simp only;omega,by simp only;omega⟩
end Go.Gk
