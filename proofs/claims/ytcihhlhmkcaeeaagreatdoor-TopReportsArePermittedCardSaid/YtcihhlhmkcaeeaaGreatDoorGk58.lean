import Derived.Test.YtcihhlhmkcaeeaaGreatDoorGk49
import Derived.Lib.ConvBytes
import Derived.Lib.AtoiErrMem
import Derived.Laws.AppendOwn
import Derived.WideLaws
set_option linter.all false
namespace Go.Gk
open Go.Instr
section
variable{P:Program}{Γ:TypeId→Option TI}{F N:Nat}{fr:Fr}{hp:List Ob}{d:Tmp}{ty:TypeId}{pos:String}{after:Array Edge}{gd':Option (Nat×Bool)}{t':TypeId}{Z:Env}{M:Mp}{w:World}
theorem Knj(hr:RelH Z hp M w){w':World}(hb:RowKit.Below w.heap.size w w'):RelH Z hp M w'∧Stp w (own hp M) w' (own hp M)∧Agr hp.length M M:=by
 have hst:Stp w (own hp M) w' (own hp M):=.mk' hb.size (fun b hlt _=>hb.block b hlt) (fun _ _ h=>h) hb.os hb.tape hb.output rfl (fun g=>g) fun x hx _=>hb.block _ (hr.bags.tgs x hx).1
 refine⟨⟨hr.len,fun i o m h1 h2=>?_,hr.apart,fun b hz=>nLl (hr.old b hz) hb.size,hr.amb_stp hst,hr.inj,hr.bags.mono rfl hb.size (fun _ _ h=>h) (fun _ _ _ _ h=>h)⟩,hst,⟨by rw[hr.len];exact Nat.le_refl _,fun _ _=>rfl⟩⟩
 have:=hr.obj i o m h1 h2
 refine this.move (k:=M.l.length) (Koi Z hst) (fun _ _=>rfl) this.bel (fun b c' e hl=>?_) fun _ _ _ _=>⟨rfl,fun x hx _=>hb.block _ (hr.bags.tgs x hx).1⟩
 subst e
 exact hb.block _ (hr.block_ob ⟨i,o,c',h1,hl,h2⟩)
def isIface:TypeDesc→Bool
 | .interface _=>true
 | _=>false
def bytesZ(s:Str):Option (List Int):=bif Nat.ble s.length 281474976710656 then some (bytesOf s) else none
end
theorem EC.of_belowX{P:Program}{f:FuncId}{gs:List G}{vs:List Value}{R:G→Prop}(hv:plainV gs=some vs)(h:∀ w,TabX w→Calls P f vs.toArray w fun e w'=>∃ v g,e=.returned v∧R g∧(∀ O M,VR w' O M g v)∧RowKit.Below w.heap.size w w'):EC P f gs [] fun g hp'=>R g∧hp'=[]:=by
 have hpl:∀ (gs:List G) (vs:List Value),plainV gs=some vs→gs.length=vs.length∧∀ j:Nat,∀ g,gs[j]?=some g→∃ x,g=.d (.v x)∧vs[j]?=some x:=by
  intro gs
  induction gs with
  | nil=>intro vs h;simp[plainV] at h;subst h;simp
  | cons g gs ih=>
   intro vs h
   cases g with
   | d x=>
    cases x with
    | v c=>
     simp only[plainV] at h
     cases hp0:plainV gs with
     | none=>rw[hp0] at h;cases h
     | some vs0=>
      rw[hp0] at h
      cases h
      obtain⟨l,hh⟩:=ih vs0 hp0
      refine⟨by simp[l],fun j g hg=>?_⟩
      cases j with
      | zero=>simp at hg;exact⟨c,hg.symm,by simp⟩
      | succ j=>simpa using hh j g (by simpa using hg)
    | ro _ _=>simp[plainV] at h
    | rf _ _=>simp[plainV] at h
    | rt _ _ _ _ _=>simp[plainV] at h
    | hd _ _=>simp[plainV] at h
    | rv _ _ _ _=>simp[plainV] at h
   | _=>simp[plainV] at h
 intro Z w M vs' hr hsz hvs
 have hvs':vs'=vs.toArray:=by
  obtain⟨l,hh⟩:=hpl gs vs hv
  apply Array.ext
  ·simp[hsz,l]
  intro i h1 h2
  have hg:gs[i]?=some (gs[i]'(by omega)):=gGe (by omega)
  obtain⟨x,e1,e2⟩:=hh i _ hg
  have:=hvs i _ _ (hg.trans (by rw[e1])) (Array.getElem?_eq_getElem h1)
  rw[vr_v this]
  have:=(gEs.1 e2).2
  simp[this]
 subst hvs'
 refine(h w (Z.ax w hr.amb)).mono ?_
 rintro e w' ⟨v,g,rfl,hR,hg,hb⟩
 obtain⟨f1,f2,f3⟩:=Knj hr hb
 exact⟨v,g,[],M,rfl,⟨hR,rfl⟩,f1,hg _ _,f2,f3⟩
def Errs(P:Program)(f:FuncId)(gs:List G):Prop:=EC P f gs [] fun g hp'=>(∃ t x,g=.tup [.junk,.d (.v (.iface t x))])∧hp'=[]
section
variable{P:Program}{F N:Nat}{ops:Array Oper}{rest:List Oper}{Q:GPost}{fr:Fr}{hp hp':List Ob}{g:G}
variable{d:Tmp}{ty:TypeId}{pos:String}{after:Array Edge}{fop:Operand}{args:Array Operand}{ts:Array TypeId}{f:FuncId}{g1 g2 gs gs':List G}
end
end Go.Gk
