import Derived.Test.YthhdojhbohfmnaaGreatDoorGk49
set_option linter.all false
namespace Go.Gk
section
variable{P:Program}{Γ:TypeId→Option TI}{F N:Nat}{Q:GPost}{fr fr':Fr}{hp hp':List Ob}{ks:List Kt}
variable{ops:Array Oper}{rest:List Oper}{g:G}
variable{d:Tmp}{op:Op}{ty t':TypeId}{pos:String}{after:Array Edge}{gd:Option (Nat×Bool)}
theorem Knb{w:World}{O:Ow}{M:Mp}{off h:Nat}{v:Value}(hh:0<h)(hv:VR w O M (.d (.hd (some off) h)) v):∃ x:Tg,O.h[h - 1]?=some (some x)∧(x.sz=0∨x.v=true)∧v=.pointer (some ⟨x.b,off,none⟩):=by
 cases hv with
 | d hd=>cases hd with
  | hd _ _ _ hd=>
   match h,hd with
   | h+1,hd=>exact hd
theorem Knc{x:Operand}{off h:Nat}(hh:Nat.blt 0 h=true)(hx:fr.ev x=some (.d (.hd (some off) h))):OpP P N ⟨some d,.nilCheck x,ty,pos,after,gd⟩ fr hp (.d (.hd (some off) h)):=fun Z w M a hr=>by
 have hvx:=hr.ev hx
 simp only[execOp]
 generalize a.eval x=vx at hvx
 obtain⟨y,_,_,rfl⟩:=Knb (nblt.1 hh) hvx
 exact⟨_,rfl,hvx⟩
theorem Knd(hΓ:TOK P Γ){t:TypeId}{x:Operand}{k off h:Nat}{i1 i2:TI}{fs:Array Field}{f:Field}(hh:Nat.blt 0 h=true)(h1:Γ t=some i1)(h1':i1.desc=.struct fs)(hf:fs[k]?=some f)(h2:Γ f.type=some i2)(hz:Nat.beq i2.size 0=false)
  (hx:fr.ev x=some (.d (.hd (some off) h))):OpP P N ⟨some d,.fieldAddr t x k,ty,pos,after,gd⟩ fr hp (.d (.hd (some (off+f.offset)) h)):=fun Z w M a hr=>by
 obtain⟨hu,_⟩:=hΓ t _ h1
 rw[h1'] at hu
 have hz':i2.size≠0:=fun e=>by rw[e] at hz;cases hz
 have hsz:=run_size' (P:=P) (w:=w) hΓ h2
 have hvx:=hr.ev hx
 simp only[execOp]
 generalize a.eval x=vx at hvx
 obtain⟨y,e1,e2,rfl⟩:=Knb (nblt.1 hh) hvx
 refine⟨.pointer (some ⟨y.b,off+f.offset,none⟩),by simp[Instr.fieldAt,Instr.sureAddr,run_underlying hu,hf,fieldPlace,hsz,hz',Addr.add_lit],.d (.hd _ _ _ ?_)⟩
 have hh':=nblt.1 hh
 match h,hh',e1 with
 | h+1,_,e1=>exact⟨y,e1,e2,rfl⟩
theorem Kne(hΓ:TOK P Γ){α:Type}{enc:α→List D}{t tb:TypeId}{i:TI}{tx:Tmp}{off bg h t0:Nat}{al:List Bool}{ar arn:List Ar}{lt:List (Nat×Nat)}{a':Ar}(xv:α)(hx:fr.get tx=some (.d (.hd (some off) h)))(hbag:hp[bg]?=some (.bag al ar lt))(hu:ArU ar h (fB tb enc t0 xv) a' arn)(hi:Γ t=some i)
  (hg:loadG i ((enc xv).map G.d) off=some g) (hg0:g.bel 0=true):OpP P N ⟨some d,.load t (.tmp tx),ty,pos,after,gd⟩ fr hp g:=
 Kmv tx hx hbag hu hg0 fun ar'=>Krw hΓ (by
  have e1:Fr.ev ((tx,hdG (some off) hp.length) :: fr) (.tmp tx)=some (.ptr hp.length off):=Fr.ev_here
  simp only[pst,hi,Option.bind_some,e1,Kmx]
  exact hg)
theorem Knf(hΓ:TOK P Γ){α:Type}{enc:α→List D}{t tb:TypeId}{i:TI}{tx:Tmp}{y:Operand}{off bg h t0:Nat}{al:List Bool}{ar arn:List Ar}{nd:List D}{new:List G}{hp2:List Ob}(xv xv':α)(hx:fr.get tx=some (.d (.hd (some off) h)))(hbag:hp[bg]?=some (.bag al ar []))
  (hu:ArU ar h (fB tb enc t0 xv) (fB tb enc t0 xv') arn) (hi:Γ t=some i) (hy:fr.ev y=some g) (hne:g≠.d (.hd (some off) h)) (hg:cellsG g=some new) (hnd:toDs new=some nd) (he:enc xv'=setAt (enc xv) off nd)
  (h1:new.all G.one=true) (hsz:Nat.beq new.length i.size=true) (hfit:Nat.ble (off+new.length) (enc xv).length=true) (h2':hp.set bg (.bag al arn [])=hp2):OpU P N ⟨none,.store t (.tmp tx) y,ty,pos,after,gd⟩ fr hp hp2:=by
 subst h2'
 have hnew:=Kdg hnd
 refine Kmw tx (.box tb (setAt ((enc xv).map G.d) off new)) hx hbag hu rfl ⟨rfl,?_⟩ fun ar'=>Kjl hΓ hi Fr.ev_here Kmx (Fr.ev_ne hx hy hne) hg h1 hsz (by simpa using hfit)
 rw[he,hnew]
 simp[setAt,List.map_append,List.map_take,List.map_drop]
def isNilT{α:Type}(s:Tl α):Option Bool:=match s.2 with
 | []=>bif Nat.beq s.1 1 then some true else none
 | _ :: _=>some false
abbrev Vl:Type:=Nat×Nat
abbrev eV(te:TypeId)(sz:Nat)(s:Vl):List D:=[.rv te sz s.1 s.2]
abbrev fR{α:Type}(te:TypeId)(sz:Nat)(enc:α→List D)(t:Nat)(l:List α):Ar:=.row t te sz l.length (l.flatMap enc)
end
section
variable{P:Program}{Γ:TypeId→Option TI}{F N:Nat}{Q:GPost}{fr fr':Fr}{hp hp':List Ob}{ks:List Kt}
variable{ops:Array Oper}{rest:List Oper}{g:G}{α:Type}{enc:α→List D}
variable{d:Tmp}{op:Op}{ty t':TypeId}{pos:String}{after:Array Edge}{gd:Option (Nat×Bool)}
end
end Go.Gk
namespace Go.Gk
def ArAt{α:Type}(f:Nat→α→Ar)(A:List (Nat×α)→List Ar):Prop:=∃ rest,∀ l,(A l).Perm (arG f l++rest)
def appV{α:Type}(al:List Bool)(l:List (Nat×List α))(s:Vl)(m:List α):Option (Vl×List Bool×List (Nat×List α)):=
 bif m.isEmpty then none else match s.1 with
 | 0=>bi (apd [] m) fun r=>some ((al.length+1,r.length),al++[true],(al.length,r) :: l)
 | t+1=>bi (hGet l (t+1)) fun z=>gd (Nat.beq z.length s.2) (bi (apd z m) fun r=>some ((al.length+1,r.length),al.set t false++[true],(al.length,r) :: hDel l (t+1)))
def frzV{α:Type}(al:List Bool)(l:List (Nat×List α))(s:Vl):Option (List α×List Bool×List (Nat×List α)):=match s.1 with
 | 0=>some ([],al,l)
 | t+1=>bi (hGet l (t+1)) fun z=>gd (Nat.beq z.length s.2) (some (z,al.set t false++[true],hDel l (t+1)))
section
variable{P:Program}{Γ:TypeId→Option TI}{F N:Nat}{Q:GPost}{fr fr':Fr}{hp hp':List Ob}{ks:List Kt}
variable{ops:Array Oper}{rest:List Oper}{g:G}{α:Type}{enc:α→List D}
variable{d:Tmp}{op:Op}{ty t':TypeId}{pos:String}{after:Array Edge}{gd:Option (Nat×Bool)}
end
def mDel{K V:Type}[BEq K](m:List (K×V))(k:K):List (K×V):=match m.findIdx? fun e=>k==e.1 with
 | some i=>m.eraseIdx i
 | none=>m
section
variable{P:Program}{Γ:TypeId→Option TI}{F N:Nat}{Q:GPost}{fr fr':Fr}{hp hp':List Ob}
variable{d:Option Tmp}{op:Op}{ty t':TypeId}{pos:String}{after:Array Edge}{gd:Option (Nat×Bool)}
variable{K V:Type}[BEq K][KLt K]{kv:K→Value}{agg:Bool}{enc:V→List D}
end
end Go.Gk
namespace Go.Gk
section
variable{K V:Type}[BEq K][KLt K]
def bornOf(mr:List (K×V))(bs:List Nat)(cl:Nat)(k:K):Nat:=match mr.findIdx? fun e=>k==e.1 with
 | some i=>bs.getD i 0
 | none=>cl
def entR(mr:List (K×V))(k:K)(z:V):List (K×V):=match mr.findIdx? fun e=>k==e.1 with
 | some _=>mr
 | none=>mr++[(k,z)]
def entB(mr:List (K×V))(bs:List Nat)(cl:Nat)(k:K):List Nat:=match mr.findIdx? fun e=>k==e.1 with
 | some _=>bs
 | none=>bs++[cl]
def entC(mr:List (K×V))(cl:Nat)(k:K):Nat:=match mr.findIdx? fun e=>k==e.1 with
 | some _=>cl
 | none=>cl+1
def mEnt(m:List (K×V))(k:K)(z:V):List (K×V):=match m.findIdx? fun e=>k==e.1 with
 | some _=>m
 | none=>mIns k z m
end
section
variable{P:Program}{Γ:TypeId→Option TI}{F N:Nat}{Q:GPost}{fr fr':Fr}{hp hp':List Ob}{ks:List Kt}
variable{d:Tmp}{op:Op}{ty t':TypeId}{pos:String}{after:Array Edge}{gd:Option (Nat×Bool)}
variable{K V:Type}[BEq K][KLt K]{kv:K→Value}{agg:Bool}{enc:V→List D}
end
end Go.Gk
