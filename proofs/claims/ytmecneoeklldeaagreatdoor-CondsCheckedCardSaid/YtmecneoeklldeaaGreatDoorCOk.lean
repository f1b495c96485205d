import Derived.Test.YtmecneoeklldeaaGreatDoorTDraw
set_option linter.all false
set_option maxRecDepth 100000
namespace Go.Gk
theorem Kdr{σ ρ:Type}{f:σ→Option (LS σ ρ)}{k:Nat}{s:σ}(s':σ)(h:f s=some (.go s')):loopM f (k+1) s=loopM f k s':=by simp only[loopM,h]
theorem Kds{σ ρ:Type}{f:σ→Option (LS σ ρ)}{k:Nat}{s:σ}(r:ρ)(h:f s=some (.out r)):loopM f (k+1) s=some r:=by simp only[loopM,h]
theorem Kdt{α β:Type}{x:Option α}{f:α→Option β}{v:α}(h:x=some v):bi x f=f v:=by rw[h];rfl
theorem Kdu(x:Str):((x:Str)==[])=decide (x.length=0):=by cases x<;>rfl
def Ok{α:Type}(m:Option α)(Q:α→Prop):Prop:=∃ r,m=some r∧Q r
def Two{α β:Type}(m:Option α)(n:Option β)(R:α→β→Prop):Prop:=∃ r q,m=some r∧n=some q∧R r q
section
variable{α β γ δ σ τ ρ ρ':Type}
theorem Kdv{r:α}{Q:α→Prop}(h:Q r):Ok (some r) Q:=⟨r,rfl,h⟩
theorem Kdw{m:Option α}{g:α→Option β}{P:α→Prop}{Q:β→Prop}(h:Ok m P)(k:∀ r,P r→Ok (g r) Q):Ok (bi m g) Q:=by
 obtain⟨r,rfl,hr⟩:=h
 exact k r hr
theorem Kdx{m:Option α}{g:α→Option β}{r:α}{Q:β→Prop}(h:m=some r)(k:Ok (g r) Q):Ok (bi m g) Q:=by subst h;exact k
theorem Kdy{m:Option α}{P Q:α→Prop}(h:Ok m P)(k:∀ r,P r→Q r):Ok m Q:=let ⟨r,h1,h2⟩:=h;⟨r,h1,k r h2⟩
theorem Kdz{b:Bool}{m n:Option α}{Q:α→Prop}(h1:b=true→Ok m Q)(h2:b=false→Ok n Q):Ok (bif b then m else n) Q:=by
 cases b with
 | true=>exact h1 rfl
 | false=>exact h2 rfl
theorem Kea{b:Bool}{m:Option α}{Q:α→Prop}(hb:b=true)(h:Ok m Q):Ok (gd b m) Q:=by subst hb;exact h
theorem Keb{f:Nat→σ→Option σ}{n:Int}{s:σ}(I:Nat→σ→Prop)(h0:I 0 s)(step:∀ (i:Nat) (s:σ),i<n.toNat→I i s→Ok (f i s) (I (i+1))):Ok (rangeG f n s) (I n.toNat):=Kue I h0 step
def LSR(I:σ→τ→Prop)(Q:ρ→ρ'→Prop):LS σ ρ→LS τ ρ'→Prop
 | .go s,.go t=>I s t
 | .out r,.out q=>Q r q
 | _,_=>False
end
theorem Kec(l:List Int)(a:Int)(xs:List Str)(hl:l.length≤9223372036854775807)(h0:0≤a)(h1:a<4611686018427387904)(hn:1≤xs.length)(hn2:xs.length≤1000) :
  ∃ x,x∈xs∧Kuz ⟨l,a⟩ xs=some (x,⟨l,a+1⟩):=by
 obtain⟨r,r0,r1,h⟩:=Ktt l a xs.length hl h0 h1 (by omega) (by omega)
 obtain⟨x,hx,e⟩:=Ktv xs r0 r1
 exact⟨x,hx,by unfold Kuz;rw[h];simp only[bi_some,e]⟩
def At(l:List Int)(a b:Int)(s:Kup):Prop:=s.L=l∧a≤s.v_at∧s.v_at≤b
theorem At.eq{l:List Int}{a b:Int}{s:Kup}(h:At l a b s):s=⟨l,s.v_at⟩:=by rw[←h.1]
theorem At.up{l:List Int}{a b a' b':Int}{s:Kup}(h:At l a b s)(h1:a'≤a)(h2:b≤b'):At l a' b' s:=⟨h.1,by have:=h.2.1;omega,by have:=h.2.2;omega⟩
theorem Ked{l:List Int}{a b:Int}{s:Kup}(h:At l a b s)(n:Int)(hl:l.length≤9223372036854775807)(h0:0≤a)(h1:b<4611686018427387904)(hn:1≤n)(hn2:n≤4611686018427387904) :
  Ok (Kuy s n) fun r=>At l (a+1) (b+1) r.2:=by
 obtain⟨e1,e2,e3⟩:=h
 obtain⟨c,hc⟩:=Ktu l s.v_at n hl (by omega) (by omega) hn hn2
 rw[←e1] at hc
 exact⟨_,hc,e1,by simp only;omega,by simp only;omega⟩
theorem Kee{l:List Int}{a b:Int}{s:Kup}(h:At l a b s)(xs:List Int)(hl:l.length≤9223372036854775807)(h0:0≤a)(h1:b<4611686018427387904)(hn:1≤xs.length)(hn2:xs.length≤1000) :
  Ok (Kux s xs) fun r=>r.1∈xs∧At l (a+1) (b+1) r.2:=by
 obtain⟨e1,e2,e3⟩:=h
 obtain⟨c,hc,hp⟩:=Ktw l s.v_at xs hl (by omega) (by omega) hn hn2
 rw[←e1] at hp
 exact⟨_,hp,hc,e1,by simp only;omega,by simp only;omega⟩
theorem Kef{l:List Int}{a b:Int}{s:Kup}(h:At l a b s)(xs:List Str)(hl:l.length≤9223372036854775807)(h0:0≤a)(h1:b<4611686018427387904)(hn:1≤xs.length)(hn2:xs.length≤1000) :
  Ok (Kuz s xs) fun r=>r.1∈xs∧At l (a+1) (b+1) r.2:=by
 obtain⟨e1,e2,e3⟩:=h
 obtain⟨c,hc,hp⟩:=Kec l s.v_at xs hl (by omega) (by omega) hn hn2
 rw[←e1] at hp
 exact⟨_,hp,hc,e1,by simp only;omega,by simp only;omega⟩
theorem Keg{l:List Int}{a b:Int}{s:Kup}(h:At l a b s)(lo hi:Int)(hl:l.length≤9223372036854775807)(h0:0≤a)(h1:b<4611686018427370000)(h2:lo≤hi)(h3 : -1000000000≤lo)(h4:hi≤1000000000) :
  Ok (Kvd s lo hi) fun r=>At l a (b+5) r.2:=by
 obtain⟨e1,e2,e3⟩:=h
 obtain⟨c,a',_,c1,c2,hp⟩:=oddD l s.v_at lo hi hl (by omega) (by omega) h2 h3 h4
 rw[←e1] at hp
 exact⟨_,hp,e1,by simp only;omega,by simp only;omega⟩
end Go.Gk
