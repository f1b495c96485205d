import Derived.Test.YtfnjahjbpaoepaaGreatDoorGk28
import Derived.ArgAppend
set_option linter.all false
namespace Go.Gk
theorem Kke{A T:Type}{a:A}{f:A→Option T}{x:Option T}(h:orI (.inl a) f=x):f a=x:=h
theorem Kkf{σ T:Type}{a:σ}{f:σ→Option T}{x:Option T}(h:goI (.go a) f=x):f a=x:=h
section
variable{P:Program}{Γ:TypeId→Option TI}{F N:Nat}{Q:GPost}{fr fr':Fr}{hp hp':List Ob}{ks ks2:List Kt}
theorem Kkg{Z:Env}{w0 w:World}{O0:Ow}{M0 M:Mp}{e:Exit}{a:Act}{fr1:Fr}{ob1:List Ob}(hm:MidP F fr1 ob1 fr hp)(hq:Q e fr1 ob1)(hr:Rel Z hp M w fr a N)(hs:Stp w0 O0 w (own hp M))(ha:Agr F M0 M) :
  Post Z F N Q w0 O0 M0 e a w:=by
 obtain⟨h1,ex,rfl,he | ⟨h2,h3,h4⟩⟩:=hm
 ·subst he
  rw[List.append_nil] at hr hs
  exact⟨fr1,ob1,M,hq,hr.sub h1,hs,ha⟩
 ·exact⟨fr1,ob1,_,hq,(hr.sub h1).cut h2 h3,Kpw hs,ha.cut h4 (by rw[hr.heap.len];simp)⟩
def Cv(F N:Nat)(M:Fr→List Ob→Prop)(fr:Fr)(hp:List Ob):Prop:=
 ∀ Z w M1 a,Rel Z hp M1 w fr a N→∃ fr' hp' M',M fr' hp'∧Rel Z hp' M' w fr' a N∧Stp w (own hp M1) w (own hp' M')∧∀ M0,Agr F M0 M1→Agr F M0 M'
theorem Kkh{M:Fr→List Ob→Prop}(h:M fr hp):Cv F N M fr hp:=fun Z w M1 a hr=>⟨fr,hp,M1,h,hr,Stp.refl _ _,fun _ h=>h⟩
theorem Kki{A:Type}{c:Code}{R:A→Prop}(fr1:A→Fr)(ob1:A→List Ob)(h1:St.holds P F N Q (.code c (.mid (fun fr' hp'=>∃ a,R a∧MidP F (fr1 a) (ob1 a) fr' hp') :: ks)) fr hp)
  (h2:∀ a,R a→St.holds P F N Q (.fin .normal ks) (fr1 a) (ob1 a)):St.holds P F N Q (.code c ks) fr hp:=by
 intro Z w0 O0 M0 w M a hs ha hr
 refine wp_mono (h1 Z w0 O0 M0 w M a hs ha hr) ?_
 rintro e a' w' ⟨fr',hp',M',q,r1,r2,r3⟩
 cases e with
 | normal=>
  obtain⟨x,hR,hm⟩:=q
  exact Kkg hm (h2 x hR) r1 r2 r3
 | _=>exact⟨fr',hp',M',q,r1,r2,r3⟩
theorem Kkj{c:Code}(fr1:Fr)(ob1:List Ob)(h1:St.holds P F N Q (.code c (.mid (MidP F fr1 ob1) :: ks)) fr hp)(h2:St.holds P F N Q (.fin .normal ks) fr1 ob1):St.holds P F N Q (.code c ks) fr hp:=by
 intro Z w0 O0 M0 w M a hs ha hr
 refine wp_mono (h1 Z w0 O0 M0 w M a hs ha hr) ?_
 rintro e a' w' ⟨fr',hp',M',q,r1,r2,r3⟩
 cases e with
 | normal=>exact Kkg q h2 r1 r2 r3
 | _=>exact⟨fr',hp',M',q,r1,r2,r3⟩
theorem Kkk{c:Code}{A T:Type}{q:A ⊕ T}(fr1:A→Fr)(ob1:A→List Ob)(h1:St.holds P F N Q (.code c (.mid (fun fr' hp'=>∃ a,q=.inl a∧MidP F (fr1 a) (ob1 a) fr' hp') :: ks)) fr hp)
  (h2:∀ a,q=.inl a→St.holds P F N Q (.fin .normal ks) (fr1 a) (ob1 a)):St.holds P F N Q (.code c ks) fr hp:=Kki fr1 ob1 h1 h2
end
section
variable{P:Program}{Γ:TypeId→Option TI}{F N:Nat}{Q:GPost}{fr fr':Fr}{hp hp' hpL:List Ob}{ks:List Kt}{ll hl bl:List Nat}
variable{ops:Array Oper}{rest:List Oper}{g:G}{QF:Fr→List Ob→Prop}
variable{d:Tmp}{op:Op}{ty:TypeId}{pos:String}{after:Array Edge}{k:Nat}{j:Nat}{want:Bool}
variable{fop:Operand}{args:Array Operand}{ts:Array TypeId}{f:FuncId}{g1 g2 gs:List G}
end
end Go.Gk
namespace Go.Gk
section
variable{P:Program}{Γ:TypeId→Option TI}{F N:Nat}{Q:GPost}{fr fr':Fr}{hp hp':List Ob}{ks:List Kt}
variable{α:Type}{enc:α→List D}{ops:Array Oper}{rest:List Oper}{g:G}
variable{d:Tmp}{op:Op}{ty:TypeId}{pos:String}{after:Array Edge}{gd':Option (Nat×Bool)}
end
end Go.Gk
namespace Go.Gk
section
variable{P:Program}{Γ:TypeId→Option TI}{F N:Nat}{Q:GPost}{fr fr':Fr}{hp hp':List Ob}{ks:List Kt}
variable{α:Type}{enc:α→List D}{ops:Array Oper}{rest:List Oper}{g:G}
variable{d:Tmp}{op:Op}{ty:TypeId}{pos:String}{after:Array Edge}{gd':Option (Nat×Bool)}
theorem Kkl{l:List Oper}(t:Nat){id n n':Nat}(h:fr.get t=some (.sl id n))(e:n=n')(k:EO P F N ops l Q ((t,.sl id n') :: fr) hp):EO P F N ops l Q fr hp:=by
 subst e
 intro Z w0 O0 M0 w M a hs ha hr
 refine k Z w0 O0 M0 w M a hs ha ⟨hr.heap,fun t' g hg=>?_,hr.size,hr.defers⟩
 rw[Fr.get_cons] at hg
 cases ht:Nat.beq t t' with
 | true=>
  obtain rfl:=nEq ht
  simp at hg
  subst hg
  exact hr.fr t _ h
 | false=>
  simp[ht] at hg
  first
   | exact hr.fr t' g hg
   | (have hne:¬ t=t':=(fun e=>by(subst e;simp at ht));simp[hne] at hg;exact hr.fr t' g hg)
theorem Kkm(hΓ:TOK P Γ){t tb:TypeId}{x y:Operand}{i:TI}{id off:Nat}{gs new:List G}{hp2:List Ob}(hi:Γ t=some i)(hx:fr.ev x=some (.ptr id off))(ho:hp[id]?=some (.box tb gs))(hy:fr.ev y=some g)(hg:cellsG g=some new)
  (h1:new.all G.one=true) (hsz:Nat.beq new.length i.size=true) (hfit:Nat.ble (off+new.length) gs.length=true) (hhp:hp.set id (.box tb (setAt gs off new))=hp2):OpU P N ⟨none,.store t x y,ty,pos,after,gd'⟩ fr hp hp2:=by
 subst hhp
 exact Kkd hΓ hi hx ho hy hg h1 hsz hfit
end
end Go.Gk
namespace Go.Gk
section
variable{P:Program}{Γ:TypeId→Option TI}{F N:Nat}{Q:GPost}{fr fr':Fr}{hp hp':List Ob}{ks:List Kt}
variable{α:Type}{enc:α→List D}{ops:Array Oper}{rest:List Oper}{g:G}
variable{d:Tmp}{op:Op}{ty:TypeId}{pos:String}{after:Array Edge}{gd':Option (Nat×Bool)}
theorem Kkn(hΓ:TOK P Γ){t tb:TypeId}{x y:Operand}{i:TI}{id off sz n:Nat}{ds nd:List D}{new:List G}(hi:Γ t=some i)(hx:fr.ev x=some (.ptr id off))(ho:hp[id]?=some (.row tb sz n ds))(hy:fr.ev y=some g)(hg:cellsG g=some new)(hnd:toDs new=some nd)
  (hsz:Nat.beq new.length i.size=true) (hfit:off+nd.length≤ds.length) :
  OpU P N ⟨none,.store t x y,ty,pos,after,gd'⟩ fr hp (hp.set id (.row tb sz n (setAt ds off nd))):=fun Z w M a hr=>by
 have hvx:=hr.ev hx
 have hnew:=Kei hnd
 have h1:new.all G.one=true:=by rw[hnew];simp[G.one]
 have hvy:=Krm (hr.ev hy) hg h1
 have hnl:nd.length=new.length:=by rw[hnew];simp
 have hvd:DataR w (ownZ Z hp M) (a.eval y).cells nd:=fun j dd hj=>by
  obtain⟨v,e1,e2,e3⟩:=hvy.2 j (.d dd) (by rw[hnew,gMp,hj];rfl)
  cases e3 with
  | d h=>exact⟨v,e1,h⟩
 simp only[execOp]
 generalize a.eval x=vx at hvx
 cases hvx with
 | ptr hM=>
  rename_i b c
  obtain⟨hdl,cs,hb,hcl,hnc,hcm,hcr⟩:=hr.heap.obj id _ _ ho hM
  have hle:ds.length≤cs.size:=by rw[hdl,hcl];exact Nat.mul_le_mul_right _ hnc
  have hvl:(a.eval y).cells.toList.length=nd.length:=by simp[hvy.1,hnl]
  obtain⟨w',r1,r2,r3⟩:=Krs (P:=P) (o':=.row tb sz n (setAt ds off nd)) hr.heap ho rfl hM hb (off:=off) (vs:=(a.eval y).cells.toList) (by rw[hvl];omega) (fun v hv=>by
    obtain⟨j,hj⟩:=List.getElem?_of_mem hv
    have hlt:j<new.length:=by rw[←hnl,←hvl];exact(gEs.1 hj).1
    obtain⟨u,e1,e2,_⟩:=hvy.2 j _ (gGe hlt)
    have:some v=some u:=by rw[←e1,←hj];simp
    cases this;exact e2)
   (fun w' hst hh=>⟨by rw[Krr hfit];exact hdl,_,hh,by simp[Krr (show off+(a.eval y).cells.toList.length≤cs.toList.length by rw[hvl];simp;omega),hcl],hnc,hcm,DataR.setAt
    (fun j g hj=>let ⟨v,e1,e2⟩:=hcr j g hj;⟨v,e1,e2.step hst⟩) (fun j g hj=>let ⟨v,e1,e2⟩:=hvd j g hj;⟨v,e1,e2.step hst⟩) (by rw[hvy.1,hnl]) hfit hle⟩) rfl
  refine⟨w',M,?_,r2,r3,⟨by rw[hr.heap.len];exact Nat.le_refl _,fun _ _=>rfl⟩⟩
  have hs:=run_size' (P:=P) (w:=w) hΓ hi
  have:(a.eval y).cells.size=i.size:=by rw[hvy.1];exact nEq hsz
  simp[Instr.storeAt,Instr.sureAddr,storeVar,hs,this,r1]
theorem Kko(hΓ:TOK P Γ){t tb:TypeId}{x y:Operand}{i:TI}{id off sz:Nat}{l:List α}{z':α}{new:List G}{hp2:List Ob}(j:Nat)(hlt:j<l.length)(hi:Γ t=some i)(hx:fr.ev x=some (.ptr id off))(hoff:off=j * sz)(ho:hp[id]?=some (.row tb sz l.length (l.flatMap enc)))
  (henc:∀ y,(enc y).length=sz) (hy:fr.ev y=some g) (hg:cellsG g=some new) (hnd:toDs new=some (enc z'))
  (hsz:Nat.beq new.length i.size=true) (hhp:hp.set id (.row tb sz (l.set j z').length ((l.set j z').flatMap enc))=hp2):OpU P N ⟨none,.store t x y,ty,pos,after,gd'⟩ fr hp hp2:=by
 subst hhp
 have hfl:=Khg henc l
 have hle:(j+1) * sz≤l.length * sz:=Nat.mul_le_mul_right _ hlt
 rw[Nat.add_mul] at hle
 have he:enc z'=setAt (enc l[j]) 0 (enc z'):=by
  unfold setAt
  simp[henc]
 have hset:=Khj henc (gGe hlt) (fo:=0) (by rw[henc];omega) he
 have:=Kkn (P:=P) (N:=N) (ty:=ty) (pos:=pos) (after:=after) (gd':=gd') hΓ hi hx ho hy hg hnd hsz (by rw[hfl,henc,hoff];omega)
 rw[Nat.add_zero,←hoff] at hset
 rw[hset,List.length_set]
 exact this
theorem Kkp{c:Code}(t:Nat){id n n':Nat}(h:fr.get t=some (.sl id n))(e:n=n')(k:St.holds P F N Q (.code c ks) ((t,.sl id n') :: fr) hp):St.holds P F N Q (.code c ks) fr hp:=by
 subst e
 refine Kil (fun t' g hg=>?_) k
 rw[Fr.get_cons] at hg
 by_cases ht:t=t'
 ·subst ht
  simp at hg
  subst hg
  exact h
 simpa [ht] using hg
end
end Go.Gk
namespace Go.Gk
section
variable{P:Program}{Γ:TypeId→Option TI}{F N:Nat}{Q:GPost}{fr fr':Fr}{hp hp':List Ob}{ks:List Kt}
variable{α:Type}{enc:α→List D}{ops:Array Oper}{rest:List Oper}{g:G}
variable{d:Tmp}{op:Op}{ty:TypeId}{pos:String}{after:Array Edge}{gd:Option (Nat×Bool)}
end
end Go.Gk
