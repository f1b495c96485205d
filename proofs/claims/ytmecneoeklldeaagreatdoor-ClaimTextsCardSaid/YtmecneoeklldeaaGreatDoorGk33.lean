import Derived.Test.YtmecneoeklldeaaGreatDoorGk28
import Derived.ArgAppend
set_option linter.all false
namespace Go.Gk
theorem Kjt{A T:Type}{a:A}{f:A→Option T}{x:Option T}(h:orI (.inl a) f=x):f a=x:=h
theorem Kju{σ T:Type}{a:σ}{f:σ→Option T}{x:Option T}(h:goI (.go a) f=x):f a=x:=h
section
variable{P:Program}{Γ:TypeId→Option TI}{F N:Nat}{Q:GPost}{fr fr':Fr}{hp hp':List Ob}{ks ks2:List Kt}
theorem Kjv{Z:Env}{w0 w:World}{O0:Ow}{M0 M:Mp}{e:Exit}{a:Act}{fr1:Fr}{ob1:List Ob}(hm:MidP F fr1 ob1 fr hp)(hq:Q e fr1 ob1)(hr:Rel Z hp M w fr a N)(hs:Stp w0 O0 w (own hp M))(ha:Agr F M0 M) :
  Post Z F N Q w0 O0 M0 e a w:=by
 obtain⟨h1,ex,rfl,he | ⟨h2,h3,h4⟩⟩:=hm
 ·subst he
  rw[List.append_nil] at hr hs
  exact⟨fr1,ob1,M,hq,hr.sub h1,hs,ha⟩
 ·exact⟨fr1,ob1,_,hq,(hr.sub h1).cut h2 h3,Knd hs,ha.cut h4 (by rw[hr.heap.len];simp)⟩
def Cv(F N:Nat)(M:Fr→List Ob→Prop)(fr:Fr)(hp:List Ob):Prop:=
 ∀ Z w M1 a,Rel Z hp M1 w fr a N→∃ fr' hp' M',M fr' hp'∧Rel Z hp' M' w fr' a N∧Stp w (own hp M1) w (own hp' M')∧∀ M0,Agr F M0 M1→Agr F M0 M'
theorem Kjw{M:Fr→List Ob→Prop}(h:M fr hp):Cv F N M fr hp:=fun Z w M1 a hr=>⟨fr,hp,M1,h,hr,Stp.refl _ _,fun _ h=>h⟩
theorem Kjx{A:Type}{c:Code}{R:A→Prop}(fr1:A→Fr)(ob1:A→List Ob)(h1:St.holds P F N Q (.code c (.mid (fun fr' hp'=>∃ a,R a∧MidP F (fr1 a) (ob1 a) fr' hp') :: ks)) fr hp)
  (h2:∀ a,R a→St.holds P F N Q (.fin .normal ks) (fr1 a) (ob1 a)):St.holds P F N Q (.code c ks) fr hp:=by
 intro Z w0 O0 M0 w M a hs ha hr
 refine wp_mono (h1 Z w0 O0 M0 w M a hs ha hr) ?_
 rintro e a' w' ⟨fr',hp',M',q,r1,r2,r3⟩
 cases e with
 | normal=>
  obtain⟨x,hR,hm⟩:=q
  exact Kjv hm (h2 x hR) r1 r2 r3
 | _=>exact⟨fr',hp',M',q,r1,r2,r3⟩
theorem Kjy{c:Code}(fr1:Fr)(ob1:List Ob)(h1:St.holds P F N Q (.code c (.mid (MidP F fr1 ob1) :: ks)) fr hp)(h2:St.holds P F N Q (.fin .normal ks) fr1 ob1):St.holds P F N Q (.code c ks) fr hp:=by
 intro Z w0 O0 M0 w M a hs ha hr
 refine wp_mono (h1 Z w0 O0 M0 w M a hs ha hr) ?_
 rintro e a' w' ⟨fr',hp',M',q,r1,r2,r3⟩
 cases e with
 | normal=>exact Kjv q h2 r1 r2 r3
 | _=>exact⟨fr',hp',M',q,r1,r2,r3⟩
theorem Kjz{c:Code}{A T:Type}{q:A ⊕ T}(fr1:A→Fr)(ob1:A→List Ob)(h1:St.holds P F N Q (.code c (.mid (fun fr' hp'=>∃ a,q=.inl a∧MidP F (fr1 a) (ob1 a) fr' hp') :: ks)) fr hp)
  (h2:∀ a,q=.inl a→St.holds P F N Q (.fin .normal ks) (fr1 a) (ob1 a)):St.holds P F N Q (.code c ks) fr hp:=Kjx fr1 ob1 h1 h2
end
section
variable{P:Program}{Γ:TypeId→Option TI}{F N:Nat}{Q:GPost}{fr fr':Fr}{hp hp' hpL:List Ob}{ks:List Kt}{ll hl bl:List Nat}
variable{ops:Array Oper}{rest:List Oper}{g:G}{QF:Fr→List Ob→Prop}
variable{d:Tmp}{op:Op}{ty:TypeId}{pos:String}{after:Array Edge}{k:Nat}{j:Nat}{want:Bool}
variable{fop:Operand}{args:Array Operand}{ts:Array TypeId}{f:FuncId}{g1 g2 gs:List G}
theorem Kka{r:G}{gs':List G}(hg:fr.guard ops j want=some true)(hcl:Callable P f)(hc:Pure P f gs r)(hd:Nat.blt d N=true)(hf:(fr.only (Oper.looksAt ops ⟨some d,.call ⟨.value fop,args,ts⟩,ty,pos,after,some (j,want)⟩)).ev fop=some (.fn (.func f) g1 g2))
  (ha:args.toList.mapM (fr.only (Oper.looksAt ops ⟨some d,.call ⟨.value fop,args,ts⟩,ty,pos,after,some (j,want)⟩)).ev=some gs') (hgs:gs=g1++gs'++g2) (hb:G.belAll 0 gs=true) (hb':r.bel 0=true)
  (kk:GE P N hpL ll hl bl ops QF (k+1) rest ((d,r) :: fr) hp) (hnn:noNew bl k=true:=by rfl):GE P N hpL ll hl bl ops QF k (⟨some d,.call ⟨.value fop,args,ts⟩,ty,pos,after,some (j,want)⟩ :: rest) fr hp:=by
 subst hgs
 exact ge_q hd (.inr ⟨j,want,rfl,hg⟩) (fun hp _=>Kjd (Kes hf ha hcl hc hb hb')) kk hnn
end
end Go.Gk
namespace Go.Gk
section
variable{P:Program}{Γ:TypeId→Option TI}{F N:Nat}{Q:GPost}{fr fr':Fr}{hp hp':List Ob}{ks:List Kt}
variable{α:Type}{enc:α→List D}{ops:Array Oper}{rest:List Oper}{g:G}
variable{d:Tmp}{op:Op}{ty:TypeId}{pos:String}{after:Array Edge}{gd':Option (Nat×Bool)}
end
end Go.Gk
namespace Go.Gk
section
variable{P:Program}{Γ:TypeId→Option TI}{F N:Nat}{Q:GPost}{fr fr':Fr}{hp hp':List Ob}{ks:List Kt}
variable{α:Type}{enc:α→List D}{ops:Array Oper}{rest:List Oper}{g:G}
variable{d:Tmp}{op:Op}{ty:TypeId}{pos:String}{after:Array Edge}{gd':Option (Nat×Bool)}
theorem Kkb(hΓ:TOK P Γ){t tb:TypeId}{x y:Operand}{i:TI}{id off:Nat}{gs new:List G}{hp2:List Ob}(hi:Γ t=some i)(hx:fr.ev x=some (.ptr id off))(ho:hp[id]?=some (.box tb gs))(hy:fr.ev y=some g)(hg:cellsG g=some new)
  (h1:new.all G.one=true) (hsz:Nat.beq new.length i.size=true) (hfit:Nat.ble (off+new.length) gs.length=true) (hhp:hp.set id (.box tb (setAt gs off new))=hp2):OpU P N ⟨none,.store t x y,ty,pos,after,gd'⟩ fr hp hp2:=by
 subst hhp
 exact Kjs hΓ hi hx ho hy hg h1 hsz hfit
end
end Go.Gk
namespace Go.Gk
section
variable{P:Program}{Γ:TypeId→Option TI}{F N:Nat}{Q:GPost}{fr fr':Fr}{hp hp':List Ob}{ks:List Kt}
variable{α:Type}{enc:α→List D}{ops:Array Oper}{rest:List Oper}{g:G}
variable{d:Tmp}{op:Op}{ty:TypeId}{pos:String}{after:Array Edge}{gd':Option (Nat×Bool)}
end
end Go.Gk
namespace Go.Gk
section
variable{P:Program}{Γ:TypeId→Option TI}{F N:Nat}{Q:GPost}{fr fr':Fr}{hp hp':List Ob}{ks:List Kt}
variable{α:Type}{enc:α→List D}{ops:Array Oper}{rest:List Oper}{g:G}
variable{d:Tmp}{op:Op}{ty:TypeId}{pos:String}{after:Array Edge}{gd:Option (Nat×Bool)}
end
end Go.Gk
