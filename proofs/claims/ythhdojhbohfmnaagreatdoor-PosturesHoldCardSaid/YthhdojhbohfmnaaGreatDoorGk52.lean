import Derived.Test.YthhdojhbohfmnaaGreatDoorGk49
set_option linter.all false
namespace Go.Gk
section
variable{P:Program}{Γ:TypeId→Option TI}{F N:Nat}{Q:GPost}{fr fr':Fr}{hp hp':List Ob}{ks:List Kt}
variable{ops:Array Oper}{rest:List Oper}{g:G}
variable{d:Tmp}{op:Op}{ty t':TypeId}{pos:String}{after:Array Edge}{gd:Option (Nat×Bool)}
def isNilT{α:Type}(s:Tl α):Option Bool:=match s.2 with
 | []=>bif Nat.beq s.1 1 then some true else none
 | _ :: _=>some false
abbrev Vl:Type:=Nat×Nat
abbrev eV(te:TypeId)(sz:Nat)(s:Vl):List D:=[.rv te sz s.1 s.2]
abbrev fR{α:Type}(te:TypeId)(sz:Nat)(enc:α→List D)(t:Nat)(l:List α):Ar:=.row t te sz l.length (l.flatMap enc)
end
section
variable{P:Program}{Γ:TypeId→Option TI}{F N:Nat}{Q:GPost}{fr fr':Fr}{hp hp':List Ob}{ks:List Kt}
variable{ops:Array Oper}{rest:List Oper}{g:G}{α:Type}{enc:α→List D}
variable{d:Tmp}{op:Op}{ty t':TypeId}{pos:String}{after:Array Edge}{gd:Option (Nat×Bool)}
end
end Go.Gk
namespace Go.Gk
def ArAt{α:Type}(f:Nat→α→Ar)(A:List (Nat×α)→List Ar):Prop:=∃ rest,∀ l,(A l).Perm (arG f l++rest)
def appV{α:Type}(al:List Bool)(l:List (Nat×List α))(s:Vl)(m:List α):Option (Vl×List Bool×List (Nat×List α)):=
 bif m.isEmpty then none else match s.1 with
 | 0=>bi (apd [] m) fun r=>some ((al.length+1,r.length),al++[true],(al.length,r) :: l)
 | t+1=>bi (hGet l (t+1)) fun z=>gd (Nat.beq z.length s.2) (bi (apd z m) fun r=>some ((al.length+1,r.length),al.set t false++[true],(al.length,r) :: hDel l (t+1)))
def frzV{α:Type}(al:List Bool)(l:List (Nat×List α))(s:Vl):Option (List α×List Bool×List (Nat×List α)):=match s.1 with
 | 0=>some ([],al,l)
 | t+1=>bi (hGet l (t+1)) fun z=>gd (Nat.beq z.length s.2) (some (z,al.set t false++[true],hDel l (t+1)))
section
variable{P:Program}{Γ:TypeId→Option TI}{F N:Nat}{Q:GPost}{fr fr':Fr}{hp hp':List Ob}{ks:List Kt}
variable{ops:Array Oper}{rest:List Oper}{g:G}{α:Type}{enc:α→List D}
variable{d:Tmp}{op:Op}{ty t':TypeId}{pos:String}{after:Array Edge}{gd:Option (Nat×Bool)}
end
def mDel{K V:Type}[BEq K](m:List (K×V))(k:K):List (K×V):=match m.findIdx? fun e=>k==e.1 with
 | some i=>m.eraseIdx i
 | none=>m
section
variable{P:Program}{Γ:TypeId→Option TI}{F N:Nat}{Q:GPost}{fr fr':Fr}{hp hp':List Ob}
variable{d:Option Tmp}{op:Op}{ty t':TypeId}{pos:String}{after:Array Edge}{gd:Option (Nat×Bool)}
variable{K V:Type}[BEq K][KLt K]{kv:K→Value}{agg:Bool}{enc:V→List D}
end
end Go.Gk
namespace Go.Gk
section
variable{K V:Type}[BEq K][KLt K]
def bornOf(mr:List (K×V))(bs:List Nat)(cl:Nat)(k:K):Nat:=match mr.findIdx? fun e=>k==e.1 with
 | some i=>bs.getD i 0
 | none=>cl
def entR(mr:List (K×V))(k:K)(z:V):List (K×V):=match mr.findIdx? fun e=>k==e.1 with
 | some _=>mr
 | none=>mr++[(k,z)]
def entB(mr:List (K×V))(bs:List Nat)(cl:Nat)(k:K):List Nat:=match mr.findIdx? fun e=>k==e.1 with
 | some _=>bs
 | none=>bs++[cl]
def entC(mr:List (K×V))(cl:Nat)(k:K):Nat:=match mr.findIdx? fun e=>k==e.1 with
 | some _=>cl
 | none=>cl+1
def mEnt(m:List (K×V))(k:K)(z:V):List (K×V):=match m.findIdx? fun e=>k==e.1 with
 | some _=>m
 | none=>mIns k z m
end
section
variable{P:Program}{Γ:TypeId→Option TI}{F N:Nat}{Q:GPost}{fr fr':Fr}{hp hp':List Ob}{ks:List Kt}
variable{d:Tmp}{op:Op}{ty t':TypeId}{pos:String}{after:Array Edge}{gd:Option (Nat×Bool)}
variable{K V:Type}[BEq K][KLt K]{kv:K→Value}{agg:Bool}{enc:V→List D}
theorem Kme{c:Code}{id:Nat}(m:List (K×V))(ho:hp[id]?=some (mOb kv agg enc m))(hF:F≤hp.length)
  (k:∀ (mr:List (K×V)) (bs:List Nat) (cl:Nat),bs.length=mr.length→St.holds P F N Q (.code c ks) fr (hp.set id (mObS kv agg enc m (rawM kv enc mr bs cl)))):St.holds P F N Q (.code c ks) fr hp:=by
 intro Z w0 O0 M0 w M a hs ha hr
 have hid:id<hp.length:=(gEs.1 ho).1
 obtain⟨b,c0,hM⟩:∃ b c,M.l[id]?=some (some (b,c)):=by
  have e:M.l[id]?=some (M.l[id]'(by rw[hr.heap.len];exact hid)):=gGe _
  have:=hr.heap.obj id _ _ ho e
  revert this
  rw[e]
  cases M.l[id]'(by rw[hr.heap.len];exact hid) with
  | some p=>exact fun _=>⟨p.1,p.2,rfl⟩
  | none=>exact fun h=>h.elim
 obtain⟨m',ms,cl,hA⟩:=Kkx hr.heap ho hM
 have hbl:(ms.toList.map (·.born)).length=m'.length:=by simp[hA.size]
 obtain⟨r1,r2⟩:=Kld hr.heap ho (o':=mObS kv agg enc m (rawM kv enc m' (ms.toList.map (·.born)) cl)) rfl rfl fun q hq hob=>by
  rw[hM] at hq
  cases hq
  exact⟨ms,cl,_,hA.heap,hA.perm.map _,List.pairwise_map.2 hA.apart,fun raw h=>(by cases h;rfl),by simpa using hA.size,hA.born,fun j k' ds hj=>by
   rw[gMp] at hj
   obtain⟨y,hy,he⟩:=oMs.1 hj
   simp only[Prod.mk.injEq] at he
   obtain⟨rfl,rfl⟩:=he
   exact hA.get j y hy⟩
 have hst:Stp w (own hp M) w (own (hp.set id (mObS kv agg enc m (rawM kv enc m' (ms.toList.map (·.born)) cl))) M):=by rw[r2];exact .refl _ _
 refine k m' (ms.toList.map (·.born)) cl hbl Z w0 O0 M0 w M a (hs.trans hst) ha ⟨r1,fun t g hg=>?_,hr.size,hr.defers⟩
 obtain⟨v,h1,h2⟩:=hr.fr t g hg
 exact⟨v,h1,h2.step (Knq Z hst) (fun _ _=>rfl)⟩
end
end Go.Gk
