import Derived.Test.YtfnjahjbpaoepaaGreatDoorGk49
set_option linter.all false
namespace Go.Gk
section
variable{P:Program}{Γ:TypeId→Option TI}{F N:Nat}{Q:GPost}{fr fr':Fr}{hp hp':List Ob}{ks:List Kt}
variable{ops:Array Oper}{rest:List Oper}{g:G}
variable{d:Tmp}{op:Op}{ty t':TypeId}{pos:String}{after:Array Edge}{gd:Option (Nat×Bool)}
def isNilT{α:Type}(s:Tl α):Option Bool:=match s.2 with
 | []=>bif Nat.beq s.1 1 then some true else none
 | _ :: _=>some false
abbrev Vl:Type:=Nat×Nat
abbrev eV(te:TypeId)(sz:Nat)(s:Vl):List D:=[.rv te sz s.1 s.2]
abbrev fR{α:Type}(te:TypeId)(sz:Nat)(enc:α→List D)(t:Nat)(l:List α):Ar:=.row t te sz l.length (l.flatMap enc)
end
section
variable{P:Program}{Γ:TypeId→Option TI}{F N:Nat}{Q:GPost}{fr fr':Fr}{hp hp':List Ob}{ks:List Kt}
variable{ops:Array Oper}{rest:List Oper}{g:G}{α:Type}{enc:α→List D}
variable{d:Tmp}{op:Op}{ty t':TypeId}{pos:String}{after:Array Edge}{gd:Option (Nat×Bool)}
end
end Go.Gk
namespace Go.Gk
def ArAt{α:Type}(f:Nat→α→Ar)(A:List (Nat×α)→List Ar):Prop:=∃ rest,∀ l,(A l).Perm (arG f l++rest)
def appV{α:Type}(al:List Bool)(l:List (Nat×List α))(s:Vl)(m:List α):Option (Vl×List Bool×List (Nat×List α)):=
 bif m.isEmpty then none else match s.1 with
 | 0=>bi (apd [] m) fun r=>some ((al.length+1,r.length),al++[true],(al.length,r) :: l)
 | t+1=>bi (hGet l (t+1)) fun z=>gd (Nat.beq z.length s.2) (bi (apd z m) fun r=>some ((al.length+1,r.length),al.set t false++[true],(al.length,r) :: hDel l (t+1)))
def frzV{α:Type}(al:List Bool)(l:List (Nat×List α))(s:Vl):Option (List α×List Bool×List (Nat×List α)):=match s.1 with
 | 0=>some ([],al,l)
 | t+1=>bi (hGet l (t+1)) fun z=>gd (Nat.beq z.length s.2) (some (z,al.set t false++[true],hDel l (t+1)))
section
variable{P:Program}{Γ:TypeId→Option TI}{F N:Nat}{Q:GPost}{fr fr':Fr}{hp hp':List Ob}{ks:List Kt}
variable{ops:Array Oper}{rest:List Oper}{g:G}{α:Type}{enc:α→List D}
variable{d:Tmp}{op:Op}{ty t':TypeId}{pos:String}{after:Array Edge}{gd:Option (Nat×Bool)}
end
def mDel{K V:Type}[BEq K](m:List (K×V))(k:K):List (K×V):=match m.findIdx? fun e=>k==e.1 with
 | some i=>m.eraseIdx i
 | none=>m
section
variable{P:Program}{Γ:TypeId→Option TI}{F N:Nat}{Q:GPost}{fr fr':Fr}{hp hp':List Ob}
variable{d:Option Tmp}{op:Op}{ty t':TypeId}{pos:String}{after:Array Edge}{gd:Option (Nat×Bool)}
variable{K V:Type}[BEq K][KLt K]{kv:K→Value}{agg:Bool}{enc:V→List D}
end
end Go.Gk
namespace Go.Gk
section
variable{K V:Type}[BEq K][KLt K]
def bornOf(mr:List (K×V))(bs:List Nat)(cl:Nat)(k:K):Nat:=match mr.findIdx? fun e=>k==e.1 with
 | some i=>bs.getD i 0
 | none=>cl
def entR(mr:List (K×V))(k:K)(z:V):List (K×V):=match mr.findIdx? fun e=>k==e.1 with
 | some _=>mr
 | none=>mr++[(k,z)]
def entB(mr:List (K×V))(bs:List Nat)(cl:Nat)(k:K):List Nat:=match mr.findIdx? fun e=>k==e.1 with
 | some _=>bs
 | none=>bs++[cl]
def entC(mr:List (K×V))(cl:Nat)(k:K):Nat:=match mr.findIdx? fun e=>k==e.1 with
 | some _=>cl
 | none=>cl+1
def mEnt(m:List (K×V))(k:K)(z:V):List (K×V):=match m.findIdx? fun e=>k==e.1 with
 | some _=>m
 | none=>mIns k z m
end
section
variable{P:Program}{Γ:TypeId→Option TI}{F N:Nat}{Q:GPost}{fr fr':Fr}{hp hp':List Ob}{ks:List Kt}
variable{d:Tmp}{op:Op}{ty t':TypeId}{pos:String}{after:Array Edge}{gd:Option (Nat×Bool)}
variable{K V:Type}[BEq K][KLt K]{kv:K→Value}{agg:Bool}{enc:V→List D}
theorem Kod{c:Code}{id:Nat}{st}(m:List (K×V))(hp2:List Ob)(ho:hp[id]?=some (mObS kv agg enc m st))(h2:hp.set id (mOb kv agg enc m)=hp2)(hF:F≤hp.length)(k:St.holds P F N Q (.code c ks) fr hp2):St.holds P F N Q (.code c ks) fr hp:=by
 subst h2
 intro Z w0 O0 M0 w M a hs ha hr
 obtain⟨r1,r2⟩:=Klr hr.heap ho (o':=mOb kv agg enc m) rfl rfl fun q hq hob=>by
  match q,hob with
  | some (b,c),⟨ms,cl,es',h1,p1,p2,p3,h2⟩=>exact⟨ms,cl,es',h1,p1,p2,fun raw h=>(by cases h),h2⟩
 have hst:Stp w (own hp M) w (own (hp.set id (mOb kv agg enc m)) M):=by rw[r2];exact .refl _ _
 refine k Z w0 O0 M0 w M a (hs.trans hst) ha ⟨r1,fun t g hg=>?_,hr.size,hr.defers⟩
 obtain⟨v,h1,h2⟩:=hr.fr t g hg
 exact⟨v,h1,h2.step (Kpj Z hst) (fun _ _=>rfl)⟩
end
theorem Koe{P:Program}{Γ:TypeId→Option TI}{N:Nat}{fr:Fr}{hp:List Ob}{α:Type}{enc:α→List D}(hΓ:TOK P Γ){d:Tmp}{ty:TypeId}{pos:String}{after:Array Edge}{gd':Option (Nat×Bool)}{t e:TypeId}{len:Nat}{i1 i2:TI}{parts:Array (Nat×Operand)}{pg:List (Nat×G)}{gs:List G}(l:List α)(h1:Γ t=some i1)(h1':i1.desc=.slice e)(h2:Γ e=some i2)
  (hz:(i2.zero.cells.toList.all (·.oneCell'))=true) (hz':Nat.blt 0 i2.zero.cells.size=true) (hlen:Nat.ble (len * i2.size) 16777216=true) (hlen':Nat.ble len 16777216=true) (hp':evParts fr parts.toList=some pg) (hf:fillG (fun i=>some (i * i2.size,i2.size)) (zerosG i2 len) pg=some gs) (hds:toDs gs=some (l.flatMap enc)) (hl:len=l.length) {id n:Nat} {hp2:List Ob} (hid:hp.length=id) (hn:l.length=n) (hhp:hp++[.row e i2.size l.length (l.flatMap enc)]=hp2) :
  OpS P N ⟨some d,.buildSlice t len parts,ty,pos,after,gd'⟩ fr hp (.sl id n) hp2:=by
 subst hl;subst hid;subst hhp;subst hn
 exact Kmu hΓ h1 h1' h2 hz hz' hlen hlen' hp' hf hds
end Go.Gk
