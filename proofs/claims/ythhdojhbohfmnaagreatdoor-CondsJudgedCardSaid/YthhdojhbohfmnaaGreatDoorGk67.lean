import Derived.Test.YthhdojhbohfmnaaGreatDoorGk52
set_option linter.all false
namespace Go.Gk
section
variable{P:Program}{F N:Nat}{Q:GPost}{fr fr':Fr}{hp hp':List Ob}{ks ks2:List Kt}{d:Tmp}{op:Op}{ty:TypeId}{pos:String}{after:Array Edge}{gd:Option (Nat×Bool)}
theorem Kpn{te sz m:Nat}{ds:List D}{g g':G}{hp2:List Ob}(id:Nat)(hd:d<N)(h:OpS P N ⟨some d,op,ty,pos,after,gd⟩ fr hp g hp')(ho:hp'[id]?=some (.row te sz m ds))(hg:g.shr id ds=g')
  (hhp:(hp'.map (Ob.shr id ds)).set id .dead=hp2) (hsl:hp'.all Ob.sole=true:=by first | exact rfl | exact .inr rfl | exact .inl rfl | assumption):OpS P N ⟨some d,op,ty,pos,after,gd⟩ fr hp g' hp2:=by
 subst hg;subst hhp
 intro Z w M a hr
 obtain⟨v,w',M',h0,h1,h2,h3,h4⟩:=h Z w M a hr
 have r0:Rel Z hp' M' w' [] a N:=⟨h1,fun t g h=>by simp[Fr.get] at h,hr.size,hr.defers⟩
 obtain⟨M2,k1,k2,k3⟩:=Kje id [d] ho hsl Z w' M' _ (r0.put hd h2)
 obtain⟨v',e1,e2⟩:=k1.fr d (g.shr id ds) (by simp[Fr.shrAt,Fr.get])
 have e3:(a.put (some d) v).tmps[d]?=some v:=by simp[Act.put,hr.size,hd]
 obtain rfl:v=v':=oSi (e3.symm.trans e1)
 exact⟨v,w',M2,h0,k1.heap,e2,h3.trans k2,h4.trans k3 (by have:=h4.le;rw[h1.len] at this;exact this)⟩
theorem Kpo{α:Type}(te:TypeId)(sz:Nat)(enc:α→List D):OpP P N ⟨some d,.assign (.const (.slice none 0 0)),ty,pos,after,gd⟩ fr hp (.d (Slt te sz enc (1,[]))):=fun Z w M a hr=>
 ⟨.slice none 0 0,rfl,G.Le.tagN _ _ _ _ (.d (.v _ rfl))⟩
end
end Go.Gk
