import Derived.Test.YthhdojhbohfmnaaGreatDoorGk52
set_option linter.all false
namespace Go.Gk
section
variable{P:Program}{F N:Nat}{Q:GPost}{fr fr':Fr}{hp hp':List Ob}{ks ks2:List Kt}{d:Tmp}{op:Op}{ty:TypeId}{pos:String}{after:Array Edge}{gd:Option (Nat×Bool)}
theorem j_cv{c:Code}{M:Fr→List Ob→Prop}(h:St.holds P F N Q (.code c (.mid (Cv F N M) :: ks)) fr hp):St.holds P F N Q (.code c (.mid M :: ks)) fr hp:=by
 intro Z w0 O0 M0 w M1 a hs ha hr
 refine wp_mono (h Z w0 O0 M0 w M1 a hs ha hr) ?_
 rintro e a' w' ⟨fr',hp',M',q,r1,r2,r3⟩
 cases e with
 | normal=>
  obtain⟨fr3,hp3,M3,hm,k1,k2,k3⟩:=q Z w' M' a' r1
  exact⟨fr3,hp3,M3,hm,k1,r2.trans k2,k3 _ r3⟩
 | _=>exact⟨fr',hp',M',q,r1,r2,r3⟩
end
end Go.Gk
