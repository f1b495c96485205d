import Derived.Test.YtfnjahjbpaoepaaGreatDoorGk28
import Derived.ArgAppend
set_option linter.all false
namespace Go.Gk
theorem Kgj{A T:Type}{a:A}{f:A→Option T}{x:Option T}(h:orI (.inl a) f=x):f a=x:=h
theorem Kgk{σ T:Type}{a:σ}{f:σ→Option T}{x:Option T}(h:goI (.go a) f=x):f a=x:=h
section
variable{P:Program}{Γ:TypeId→Option TI}{F N:Nat}{Q:GPost}{fr fr':Fr}{hp hp':List Ob}{ks ks2:List Kt}
theorem Kgl{Z:Env}{w0 w:World}{O0:Ow}{M0 M:Mp}{e:Exit}{a:Act}{fr1:Fr}{ob1:List Ob}(hm:MidP F fr1 ob1 fr hp)(hq:Q e fr1 ob1)(hr:Rel Z hp M w fr a N)(hs:Stp w0 O0 w (own hp M))(ha:Agr F M0 M) :
  Post Z F N Q w0 O0 M0 e a w:=by
 obtain⟨h1,ex,rfl,he | ⟨h2,h3,h4⟩⟩:=hm
 ·subst he
  rw[List.append_nil] at hr hs
  exact⟨fr1,ob1,M,hq,hr.sub h1,hs,ha⟩
 ·exact⟨fr1,ob1,_,hq,(hr.sub h1).cut h2 h3,Kky hs,ha.cut h4 (by rw[hr.heap.len];simp)⟩
def Cv(F N:Nat)(M:Fr→List Ob→Prop)(fr:Fr)(hp:List Ob):Prop:=
 ∀ Z w M1 a,Rel Z hp M1 w fr a N→∃ fr' hp' M',M fr' hp'∧Rel Z hp' M' w fr' a N∧Stp w (own hp M1) w (own hp' M')∧∀ M0,Agr F M0 M1→Agr F M0 M'
theorem Kgm{M:Fr→List Ob→Prop}(h:M fr hp):Cv F N M fr hp:=fun Z w M1 a hr=>⟨fr,hp,M1,h,hr,Stp.refl _ _,fun _ h=>h⟩
theorem Kgn{M:Fr→List Ob→Prop}(hF:F≤hp.length)(h:∀ Z w M a,Rel Z hp M w fr a N→∃ M',Rel Z hp' M' w fr' a N∧Stp w (own hp M) w (own hp' M')∧Agr hp.length M M')(k:Cv F N M fr' hp'):Cv F N M fr hp:=by
 intro Z w M1 a hr
 obtain⟨M2,h1,h2,h3⟩:=h Z w M1 a hr
 obtain⟨fr3,hp3,M3,k0,k1,k2,k3⟩:=k Z w M2 a h1
 exact⟨fr3,hp3,M3,k0,k1,h2.trans k2,fun M0 h=>k3 M0 (h.trans h3 hF)⟩
theorem Kgo{M:Fr→List Ob→Prop}(src dst:Nat){o:Ob}(hp2:List Ob)(ho:hp[src]?=some o)(hol:o.live=true)(hdst:hp[dst]?=some .dead)(hno:(hp.all fun o=>!o.has dst)=true)(hF:Nat.ble F dst=true)(hhp:mvObs src dst o hp=hp2)(k:Cv F N M (fr.mv src dst) hp2):Cv F N M fr hp:=by
 subst hhp
 intro Z w M1 a hr
 obtain⟨M2,h1,h2,h3,h4⟩:=Kfi src dst ho hol hdst hno Z w M1 a hr
 obtain⟨fr3,hp3,M3,k0,k1,k2,k3⟩:=k Z w M2 a h1
 refine⟨fr3,hp3,M3,k0,k1,h2.trans k2,fun M0 ha=>k3 M0 ⟨by rw[h3];exact ha.le,fun i hi=>?_⟩⟩
 rw[h4 i (by have:=nBe hF;omega)]
 exact ha.eq i hi
theorem Kgp{A:Type}{c:Code}{R:A→Prop}(fr1:A→Fr)(ob1:A→List Ob)(h1:St.holds P F N Q (.code c (.mid (fun fr' hp'=>∃ a,R a∧MidP F (fr1 a) (ob1 a) fr' hp') :: ks)) fr hp)
  (h2:∀ a,R a→St.holds P F N Q (.fin .normal ks) (fr1 a) (ob1 a)):St.holds P F N Q (.code c ks) fr hp:=by
 intro Z w0 O0 M0 w M a hs ha hr
 refine wp_mono (h1 Z w0 O0 M0 w M a hs ha hr) ?_
 rintro e a' w' ⟨fr',hp',M',q,r1,r2,r3⟩
 cases e with
 | normal=>
  obtain⟨x,hR,hm⟩:=q
  exact Kgl hm (h2 x hR) r1 r2 r3
 | _=>exact⟨fr',hp',M',q,r1,r2,r3⟩
theorem Kgq{c:Code}(fr1:Fr)(ob1:List Ob)(h1:St.holds P F N Q (.code c (.mid (MidP F fr1 ob1) :: ks)) fr hp)(h2:St.holds P F N Q (.fin .normal ks) fr1 ob1):St.holds P F N Q (.code c ks) fr hp:=by
 intro Z w0 O0 M0 w M a hs ha hr
 refine wp_mono (h1 Z w0 O0 M0 w M a hs ha hr) ?_
 rintro e a' w' ⟨fr',hp',M',q,r1,r2,r3⟩
 cases e with
 | normal=>exact Kgl q h2 r1 r2 r3
 | _=>exact⟨fr',hp',M',q,r1,r2,r3⟩
theorem Kgr{c:Code}{A T:Type}{q:A ⊕ T}(fr1:A→Fr)(ob1:A→List Ob)(h1:St.holds P F N Q (.code c (.mid (fun fr' hp'=>∃ a,q=.inl a∧MidP F (fr1 a) (ob1 a) fr' hp') :: ks)) fr hp)
  (h2:∀ a,q=.inl a→St.holds P F N Q (.fin .normal ks) (fr1 a) (ob1 a)):St.holds P F N Q (.code c ks) fr hp:=Kgp fr1 ob1 h1 h2
end
section
variable{P:Program}{Γ:TypeId→Option TI}{F N:Nat}{Q:GPost}{fr fr':Fr}{hp hp' hpL:List Ob}{ks:List Kt}{ll hl bl:List Nat}
variable{ops:Array Oper}{rest:List Oper}{g:G}{QF:Fr→List Ob→Prop}
variable{d:Tmp}{op:Op}{ty:TypeId}{pos:String}{after:Array Edge}{k:Nat}{j:Nat}{want:Bool}
variable{fop:Operand}{args:Array Operand}{ts:Array TypeId}{f:FuncId}{g1 g2 gs:List G}
theorem Kgs{r:G}{gs':List G}(hg:fr.guard ops j want=some true)(hcl:Callable P f)(hc:Pure P f gs r)(hd:Nat.blt d N=true)(hf:(fr.only (Oper.looksAt ops ⟨some d,.call ⟨.value fop,args,ts⟩,ty,pos,after,some (j,want)⟩)).ev fop=some (.fn (.func f) g1 g2))
  (ha:args.toList.mapM (fr.only (Oper.looksAt ops ⟨some d,.call ⟨.value fop,args,ts⟩,ty,pos,after,some (j,want)⟩)).ev=some gs') (hgs:gs=g1++gs'++g2) (hb:G.belAll 0 gs=true) (hb':r.bel 0=true)
  (kk:GE P N hpL ll hl bl ops QF (k+1) rest ((d,r) :: fr) hp) (hnn:noNew bl k=true:=by rfl):GE P N hpL ll hl bl ops QF k (⟨some d,.call ⟨.value fop,args,ts⟩,ty,pos,after,some (j,want)⟩ :: rest) fr hp:=by
 subst hgs
 exact ge_q hd (.inr ⟨j,want,rfl,hg⟩) (fun hp _=>Kft (Kbh hf ha hcl hc hb hb')) kk hnn
theorem Kgt{α:Type}{enc:α→List D}(hΓ:TOK P Γ){t e:TypeId}{len:Nat}{i1 i2:TI}{parts:Array (Nat×Operand)}{pg:List (Nat×G)}{gs:List G}(l:List α)(hg:fr.guard ops j want=some true)(h1:Γ t=some i1)(h1':i1.desc=.slice e)(h2:Γ e=some i2)
  (hz:(i2.zero.cells.toList.all (·.oneCell'))=true) (hz':Nat.blt 0 i2.zero.cells.size=true) (hlen:Nat.ble (len * i2.size) 16777216=true) (hlen':Nat.ble len 16777216=true) (hp':evParts (fr.only (Oper.looksAt ops ⟨some d,.buildSlice t len parts,ty,pos,after,some (j,want)⟩)) parts.toList=some pg) (hf:fillG (fun i=>some (i * i2.size,i2.size)) (zerosG i2 len) pg=some gs) (hds:toDs gs=some (l.flatMap enc)) (hlq:len=l.length)
  (hd:Nat.blt d N=true) (kk:GE P N hpL ll hl bl ops QF (k+1) rest ((d,.d (Sl enc l)) :: fr) hp) (hnn:noNew bl k=true:=by rfl):GE P N hpL ll hl bl ops QF k (⟨some d,.buildSlice t len parts,ty,pos,after,some (j,want)⟩ :: rest) fr hp:=by
 subst hlq
 exact ge_q hd (.inr ⟨j,want,rfl,hg⟩) (fun hp _=>Kft (Kbk hΓ h1 h1' h2 hz hz' hlen hlen' hp' hf hds)) kk hnn
end
end Go.Gk
namespace Go.Gk
section
variable{P:Program}{Γ:TypeId→Option TI}{F N:Nat}{Q:GPost}{fr fr':Fr}{hp hp':List Ob}{ks:List Kt}
variable{α:Type}{enc:α→List D}{ops:Array Oper}{rest:List Oper}{g:G}
variable{d:Tmp}{op:Op}{ty:TypeId}{pos:String}{after:Array Edge}{gd':Option (Nat×Bool)}
end
end Go.Gk
namespace Go.Gk
section
variable{P:Program}{Γ:TypeId→Option TI}{F N:Nat}{Q:GPost}{fr fr':Fr}{hp hp':List Ob}{ks:List Kt}
variable{α:Type}{enc:α→List D}{ops:Array Oper}{rest:List Oper}{g:G}
variable{d:Tmp}{op:Op}{ty:TypeId}{pos:String}{after:Array Edge}{gd':Option (Nat×Bool)}
theorem Kgu(hΓ:TOK P Γ){t tb:TypeId}{x y:Operand}{i:TI}{id off:Nat}{gs new:List G}{hp2:List Ob}(hi:Γ t=some i)(hx:fr.ev x=some (.ptr id off))(ho:hp[id]?=some (.box tb gs))(hy:fr.ev y=some g)(hg:cellsG g=some new)
  (h1:new.all G.one=true) (hsz:Nat.beq new.length i.size=true) (hfit:Nat.ble (off+new.length) gs.length=true) (hhp:hp.set id (.box tb (setAt gs off new))=hp2):OpU P N ⟨none,.store t x y,ty,pos,after,gd'⟩ fr hp hp2:=by
 subst hhp
 exact Kgi hΓ hi hx ho hy hg h1 hsz hfit
end
end Go.Gk
namespace Go.Gk
section
variable{P:Program}{Γ:TypeId→Option TI}{F N:Nat}{Q:GPost}{fr fr':Fr}{hp hp':List Ob}{ks:List Kt}
variable{α:Type}{enc:α→List D}{ops:Array Oper}{rest:List Oper}{g:G}
variable{d:Tmp}{op:Op}{ty:TypeId}{pos:String}{after:Array Edge}{gd':Option (Nat×Bool)}
end
end Go.Gk
namespace Go.Gk
section
variable{P:Program}{Γ:TypeId→Option TI}{F N:Nat}{Q:GPost}{fr fr':Fr}{hp hp':List Ob}{ks:List Kt}
variable{α:Type}{enc:α→List D}{ops:Array Oper}{rest:List Oper}{g:G}
variable{d:Tmp}{op:Op}{ty:TypeId}{pos:String}{after:Array Edge}{gd:Option (Nat×Bool)}
end
end Go.Gk
