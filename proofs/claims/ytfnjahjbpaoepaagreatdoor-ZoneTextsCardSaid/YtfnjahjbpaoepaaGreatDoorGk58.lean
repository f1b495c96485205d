import Derived.Test.YtfnjahjbpaoepaaGreatDoorGk49
import Derived.Lib.ConvBytes
import Derived.Lib.AtoiErrMem
import Derived.Laws.AppendOwn
import Derived.WideLaws
set_option linter.all false
namespace Go.Gk
open Go.Instr
section
variable{P:Program}{Γ:TypeId→Option TI}{F N:Nat}{fr:Fr}{hp:List Ob}{d:Tmp}{ty:TypeId}{pos:String}{after:Array Edge}{gd':Option (Nat×Bool)}{t':TypeId}{Z:Env}{M:Mp}{w:World}
theorem Kiv(hr:RelH Z hp M w){w':World}(hb:RowKit.Below w.heap.size w w'):RelH Z hp M w'∧Stp w (own hp M) w' (own hp M)∧Agr hp.length M M:=by
 have hst:Stp w (own hp M) w' (own hp M):=.mk' hb.size (fun b hlt _=>hb.block b hlt) (fun _ _ h=>h) hb.os hb.tape hb.output rfl (fun g=>g) fun x hx _=>hb.block _ (hr.bags.tgs x hx).1
 refine⟨⟨hr.len,fun i o m h1 h2=>?_,hr.apart,fun b hz=>nLl (hr.old b hz) hb.size,hr.amb_stp hst,hr.inj,hr.bags.mono rfl hb.size (fun _ _ h=>h) (fun _ _ _ _ h=>h)⟩,hst,⟨by rw[hr.len];exact Nat.le_refl _,fun _ _=>rfl⟩⟩
 have:=hr.obj i o m h1 h2
 refine this.move (k:=M.l.length) (Kke Z hst) (fun _ _=>rfl) this.bel (fun b c' e hl=>?_) fun _ _ _ _=>⟨rfl,fun x hx _=>hb.block _ (hr.bags.tgs x hx).1⟩
 subst e
 exact hb.block _ (hr.block_ob ⟨i,o,c',h1,hl,h2⟩)
def isIface:TypeDesc→Bool
 | .interface _=>true
 | _=>false
theorem Kiw(hΓ:TOK P Γ){t:TypeId}{i1:TI}{x:Operand}{v:Value}(h1:Γ t=some i1)(h1':isIface i1.desc=false)(hx:fr.ev x=some (.d (.v v))) :
  OpP P N ⟨some d,.makeInterface t x,ty,pos,after,gd'⟩ fr hp (.d (.v (.iface t v))):=by
 intro Z w M a hr
 obtain⟨u1,_⟩:=hΓ t _ h1
 have hxv:a.eval x=v:=hr.ev_v hx
 refine⟨_,?_,.d (.v _ rfl)⟩
 have:(Instr.makeInterface t v).run P w=.ok (.iface t v) w:=by
  simp only[Instr.makeInterface]
  rw[Sem.run_bind,run_underlying u1]
  revert h1'
  cases i1.desc<;>simp[isIface]
 simp[execOp,hxv,this]
theorem Kix(hΓ:TOK P Γ){t:TypeId}{i1:TI}{ms:Array (String×TypeId)}{x y:Operand}{xt:TypeId}{xv:Value}(h1:Γ t=some i1)(h1':i1.desc=.interface ms)(hx:fr.ev x=some (.d (.v (.iface xt xv))))(hy:y=.const .nilIface) :
  OpP P N ⟨some d,.binOp .eql t x y t',ty,pos,after,gd'⟩ fr hp (B false)∧OpP P N ⟨some d,.binOp .neq t x y t',ty,pos,after,gd'⟩ fr hp (B true):=by
 constructor<;>intro Z w M a hr
 all_goals
  obtain⟨u1,_⟩:=hΓ t _ h1
  rw[h1'] at u1
  have hm:P.underlying t=some (.interface (P.methodsAt t)):=by simp[Program.methodsAt,u1]
  have he:=run_equal_held_nil (w:=w) t xt xv hm
  have hyv:a.eval y=.nilIface:=by subst hy;rfl
  have hxv:a.eval x=.iface xt xv:=hr.ev_v hx
  subst hy
  refine⟨_,?_,.d (.v _ rfl)⟩
  simp[execOp,hyv,hxv,eqGuard,binOp,he]
theorem Kiy(hΓ:TOK P Γ){t:TypeId}{i1:TI}{ms:Array (String×TypeId)}{x y:Operand}(h1:Γ t=some i1)(h1':i1.desc=.interface ms)(hx:fr.ev x=some (.d (.v .nilIface)))(hy:y=.const .nilIface) :
  OpP P N ⟨some d,.binOp .eql t x y t',ty,pos,after,gd'⟩ fr hp (B true)∧OpP P N ⟨some d,.binOp .neq t x y t',ty,pos,after,gd'⟩ fr hp (B false):=by
 constructor<;>intro Z w M a hr
 all_goals
  obtain⟨u1,_⟩:=hΓ t _ h1
  rw[h1'] at u1
  have hm:P.underlying t=some (.interface (P.methodsAt t)):=by simp[Program.methodsAt,u1]
  have he:=run_equal_nil_nil (w:=w) t hm
  have hyv:a.eval y=.nilIface:=by subst hy;rfl
  have hxv:a.eval x=.nilIface:=hr.ev_v hx
  subst hy
  refine⟨_,?_,.d (.v _ rfl)⟩
  simp[execOp,hyv,hxv,eqGuard_nil_constR,binOp,he]
theorem Kiz(hΓ:TOK P Γ){t:TypeId}{i1:TI}{ms:Array (String×TypeId)}{x y:Operand}{xt:TypeId}{xv:Value}(h1:Γ t=some i1)(h1':i1.desc=.interface ms)(hx:fr.ev x=some (.d (.v (.iface xt xv))))(hy:y=.const .nilIface) :
  OpP P N ⟨some d,.binOp .neq t x y t',ty,pos,after,gd'⟩ fr hp (B true):=(Kix hΓ h1 h1' hx hy).2
theorem Kja(hΓ:TOK P Γ){t:TypeId}{i1:TI}{ms:Array (String×TypeId)}{x y:Operand}(h1:Γ t=some i1)(h1':i1.desc=.interface ms)(hx:fr.ev x=some (.d (.v .nilIface)))(hy:y=.const .nilIface) :
  OpP P N ⟨some d,.binOp .eql t x y t',ty,pos,after,gd'⟩ fr hp (B true):=(Kiy hΓ h1 h1' hx hy).1
theorem Kjb(hΓ:TOK P Γ){t:TypeId}{i1:TI}{ms:Array (String×TypeId)}{x y:Operand}(h1:Γ t=some i1)(h1':i1.desc=.interface ms)(hx:fr.ev x=some (.d (.v .nilIface)))(hy:y=.const .nilIface) :
  OpP P N ⟨some d,.binOp .neq t x y t',ty,pos,after,gd'⟩ fr hp (B false):=(Kiy hΓ h1 h1' hx hy).2
def bytesZ(s:Str):Option (List Int):=bif Nat.ble s.length 281474976710656 then some (bytesOf s) else none
theorem Kjc(hΓ:TOK P Γ){s t e:TypeId}{i1 i2 i3:TI}{x:Operand}{l:Str}{r:List Int}(hz:bytesZ l=some r)(h1:Γ s=some i1)(h1':i1.desc=.string)(h2:Γ t=some i2)(h2':i2.desc=.slice e)(h3:Γ e=some i3)(h3':i3.desc=.int .u8)
  (hx:fr.ev x=some (S l)):OpS P N ⟨some d,.convert s t x,ty,pos,after,gd'⟩ fr hp (.d (Sl (eN .u8) r)) hp:=by
 intro Z w M a hr
 obtain⟨u1,_⟩:=hΓ s _ h1
 obtain⟨u2,_⟩:=hΓ t _ h2
 obtain⟨u3,_⟩:=hΓ e _ h3
 rw[h2'] at u2
 rw[h3'] at u3
 have hl:l.length≤281474976710656∧r=bytesOf l:=by
  unfold bytesZ at hz
  cases hb:Nat.ble l.length 281474976710656 with
  | true=>rw[hb] at hz;cases hz;exact⟨nBe hb,rfl⟩
  | false=>rw[hb] at hz;cases hz
 obtain⟨hl,rfl⟩:=hl
 have hxv:a.eval x=.string ⟨l.toArray⟩:=hr.ev_v hx
 have hs:(⟨l.toArray⟩:ByteArray).size=l.length:=by simp
 have hrun:=Lib.run_convert_string_bytes (P:=P) w s t e ⟨l.toArray⟩ u1 u2 u3
 obtain⟨f1,f2,f3⟩:=Kiv hr.heap (Lib.bytesWorld_below w e ⟨l.toArray⟩)
 have hn:¬ ownZ Z hp M w.heap.size:=by
  rintro(h | h)
  ·exact absurd (hr.heap.block_lt h) (Nat.lt_irrefl _)
  ·exact absurd (hr.heap.old _ (Z.hv _ h)) (Nat.lt_irrefl _)
 have hlen:(bytesOf l).length=l.length:=by simp[bytesOf]
 have hml:maxLen=9223372036854775807:=rfl
 refine⟨_,_,M,by simp only[execOp,hxv];rw[Sem.run_bind,hrun];rfl,f1,?_,f2,f3⟩
 unfold Sl
 rw[hlen,hs]
 have key:∀ (j:Nat) (dd:D),((bytesOf l).flatMap (eN .u8))[j]?=some dd→j<l.length∧dd=.v (.int .u8 (l.getD j 0).toNat):=fun j dd hj=>by
  unfold bytesOf at hj
  rw[Kfe,gMp] at hj
  obtain⟨z,hz',rfl⟩:=oMs.1 hj
  exact⟨(gEs.1 hz').1,by simp[List.getD,hz']⟩
 refine .d (.ro l.length _ w.heap.size 0 _ (fun j=>.int .u8 (l.getD j 0).toNat) (by rw[Lib.bytesWorld_size];omega) (fun _ _ h=>absurd h hn) (by rw[←hs];exact grownCap_ge _ _ _ _) (grownCap_le_maxLen _ _ _ _ (by rw[hml];omega)) (fun j dd hj=>?_) (fun j dd hj=>?_))
 ·have:=Lib.bytesWorld_cell w e ⟨l.toArray⟩ j (by rw[hs];exact(key j dd hj).1)
  rw[Nat.zero_add,this]
 ·rw[(key j dd hj).2]
  exact .v _ rfl
end
theorem EC.of_belowX{P:Program}{f:FuncId}{gs:List G}{vs:List Value}{R:G→Prop}(hv:plainV gs=some vs)(h:∀ w,TabX w→Calls P f vs.toArray w fun e w'=>∃ v g,e=.returned v∧R g∧(∀ O M,VR w' O M g v)∧RowKit.Below w.heap.size w w'):EC P f gs [] fun g hp'=>R g∧hp'=[]:=by
 have hpl:∀ (gs:List G) (vs:List Value),plainV gs=some vs→gs.length=vs.length∧∀ j:Nat,∀ g,gs[j]?=some g→∃ x,g=.d (.v x)∧vs[j]?=some x:=by
  intro gs
  induction gs with
  | nil=>intro vs h;simp[plainV] at h;subst h;simp
  | cons g gs ih=>
   intro vs h
   cases g with
   | d x=>
    cases x with
    | v c=>
     simp only[plainV] at h
     cases hp0:plainV gs with
     | none=>rw[hp0] at h;cases h
     | some vs0=>
      rw[hp0] at h
      cases h
      obtain⟨l,hh⟩:=ih vs0 hp0
      refine⟨by simp[l],fun j g hg=>?_⟩
      cases j with
      | zero=>simp at hg;exact⟨c,hg.symm,by simp⟩
      | succ j=>simpa using hh j g (by simpa using hg)
    | ro _ _=>simp[plainV] at h
    | rf _ _=>simp[plainV] at h
    | rt _ _ _ _ _=>simp[plainV] at h
    | hd _ _=>simp[plainV] at h
    | rv _ _ _ _=>simp[plainV] at h
   | _=>simp[plainV] at h
 intro Z w M vs' hr hsz hvs
 have hvs':vs'=vs.toArray:=by
  obtain⟨l,hh⟩:=hpl gs vs hv
  apply Array.ext
  ·simp[hsz,l]
  intro i h1 h2
  have hg:gs[i]?=some (gs[i]'(by omega)):=gGe (by omega)
  obtain⟨x,e1,e2⟩:=hh i _ hg
  have:=hvs i _ _ (hg.trans (by rw[e1])) (Array.getElem?_eq_getElem h1)
  rw[vr_v this]
  have:=(gEs.1 e2).2
  simp[this]
 subst hvs'
 refine(h w (Z.ax w hr.amb)).mono ?_
 rintro e w' ⟨v,g,rfl,hR,hg,hb⟩
 obtain⟨f1,f2,f3⟩:=Kiv hr hb
 exact⟨v,g,[],M,rfl,⟨hR,rfl⟩,f1,hg _ _,f2,f3⟩
def Errs(P:Program)(f:FuncId)(gs:List G):Prop:=EC P f gs [] fun g hp'=>(∃ t x,g=.tup [.junk,.d (.v (.iface t x))])∧hp'=[]
section
variable{P:Program}{F N:Nat}{ops:Array Oper}{rest:List Oper}{Q:GPost}{fr:Fr}{hp hp':List Ob}{g:G}
variable{d:Tmp}{ty:TypeId}{pos:String}{after:Array Edge}{fop:Operand}{args:Array Operand}{ts:Array TypeId}{f:FuncId}{g1 g2 gs gs':List G}
theorem Kjd(hcl:Callable P f)(hc:Errs P f gs)(hd:Nat.blt d N=true)(hF:F≤hp.length)(hf:fr.ev fop=some (.fn (.func f) g1 g2))(ha:args.toList.mapM fr.ev=some gs')(hgs:gs=g1++gs'++g2)(hb:G.belAll 0 gs=true)
  (h:∀ t x,EO P F N ops rest Q ((d,.tup [.junk,.d (.v (.iface t x))]) :: fr) hp):EO P F N ops (⟨some d,.call ⟨.value fop,args,ts⟩,ty,pos,after,none⟩ :: rest) Q fr hp:=by
 subst hgs
 have h0:=EC.frame (hp:=hp) hc [] rfl List.nodup_nil (fun i o r h=>by simp at h) (HB_nil _) (.inl rfl) hb
 have e:(g1++gs'++g2).map (G.ren (rn [] hp.length))=g1++gs'++g2:=by rw[←G.renAll_eq];exact G.renAll_of_bel _ hb
 rw[e] at h0
 refine Kmc (R:=fun g hp'=>(∃ t x,g=.tup [.junk,.d (.v (.iface t x))])∧hp'=hp) hd hF hf ha hcl (h0.mono ?_) ?_
 ·rintro g hp' ⟨g0,hc',⟨⟨t,x,rfl⟩,rfl⟩,rfl,_,rfl⟩
  exact⟨⟨t,x,rfl⟩,by simp[upd]⟩
 ·rintro g hp' ⟨⟨t,x,rfl⟩,rfl⟩
  exact h t x
end
end Go.Gk
