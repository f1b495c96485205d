import Derived.Test.YthhdojhbohfmnaaGreatDoorGk49
set_option linter.all false
namespace Go.Gk
section
variable{P:Program}{Γ:TypeId→Option TI}{F N:Nat}{Q:GPost}{fr fr':Fr}{hp hp':List Ob}{ks:List Kt}
variable{ops:Array Oper}{rest:List Oper}{g:G}
variable{d:Tmp}{op:Op}{ty t':TypeId}{pos:String}{after:Array Edge}{gd:Option (Nat×Bool)}
theorem Kof{w:World}(t e:TypeId)(a:Option Addr)(n c:Nat)(u:P.underlying t=some (.slice e)) :
  (binOp .eql t (.slice a n c) (.slice none 0 0)).run P w=.ok (.bool a.isNone) w∧(binOp .neq t (.slice a n c) (.slice none 0 0)).run P w=.ok (.bool (!a.isNone)) w:=by
 have h:(Op.equal t (.slice a n c) (.slice none 0 0)).run P w=.ok a.isNone w:=by
  unfold Op.equal
  rw[show Op.maxDepth=(Op.maxDepth - 1)+1 from rfl]
  cases a<;>simp[Op.equalIn,run_underlying u]
 constructor<;>simp[binOp,h]
theorem Kog(hΓ:TOK P Γ){t e:TypeId}{i1:TI}{x y:Operand}{b:Bool}(h1:Γ t=some i1)(h1':i1.desc=.slice e)(hy:y=.const (.slice none 0 0))
  (hv:∀ Z w M a,Rel Z hp M w fr a N→∃ (p:Option Addr) (n c:Nat),a.eval x=.slice p n c∧p.isNone=b) :
  OpP P N ⟨some d,.binOp .eql t x y t',ty,pos,after,gd⟩ fr hp (B b)∧OpP P N ⟨some d,.binOp .neq t x y t',ty,pos,after,gd⟩ fr hp (B (!b)):=by
 constructor<;>intro Z w M a hr
 all_goals
  obtain⟨u1,_⟩:=hΓ t _ h1
  rw[h1'] at u1
  have hyv:a.eval y=.slice none 0 0:=by subst hy;rfl
  obtain⟨p,n,c,hq,rfl⟩:=hv Z w M a hr
  refine⟨_,?_,.d (.v _ rfl)⟩
  first
   | (simp[execOp,hyv,hq,eqGuard,(Kof (P:=P) (w:=w) t e p n c u1).1];done)
   | (simp[execOp,hyv,hq,eqGuard,(Kof (P:=P) (w:=w) t e p n c u1).2];done)
def isNilT{α:Type}(s:Tl α):Option Bool:=match s.2 with
 | []=>bif Nat.beq s.1 1 then some true else none
 | _ :: _=>some false
theorem Koh(hΓ:TOK P Γ){α:Type}{enc:α→List D}{t te e:TypeId}{sz:Nat}{i1:TI}{x y:Operand}{s:Tl α}{b:Bool}(hz:isNilT s=some b)(h1:Γ t=some i1)(h1':i1.desc=.slice e)(hx:fr.ev x=some (.d (Slt te sz enc s)))(hy:y=.const (.slice none 0 0)) :
  OpP P N ⟨some d,.binOp .eql t x y t',ty,pos,after,gd⟩ fr hp (B b)∧OpP P N ⟨some d,.binOp .neq t x y t',ty,pos,after,gd⟩ fr hp (B (!b)):=
 Kog hΓ h1 h1' hy fun Z w M a hr=>by
  have hvx:=hr.ev hx
  generalize a.eval x=vx at hvx
  obtain⟨tg,l⟩:=s
  cases hvx with
  | d hd=>cases hd with
   | rt _ _ _ _ _ _ hro hT=>
    cases l with
    | nil=>
     simp only[isNilT] at hz
     cases ht:Nat.beq tg 1 with
     | false=>rw[ht] at hz;cases hz
     | true=>
      rw[ht] at hz
      cases hz
      have:=nEq ht
      subst this
      obtain⟨p,rfl,hp⟩:=hT
      exact⟨p,_,_,rfl,by rw[hp rfl];rfl⟩
    | cons y l=>
     cases hz
     generalize hn:(y :: l).length=n at hro
     generalize hds:(y :: l).flatMap enc=ds at hro
     cases hro with
     | nil=>simp at hn
     | ro n xs b off cap vs hb hO hn' hm hc hv=>exact⟨_,_,_,rfl,rfl⟩
abbrev Vl:Type:=Nat×Nat
abbrev eV(te:TypeId)(sz:Nat)(s:Vl):List D:=[.rv te sz s.1 s.2]
abbrev fR{α:Type}(te:TypeId)(sz:Nat)(enc:α→List D)(t:Nat)(l:List α):Ar:=.row t te sz l.length (l.flatMap enc)
end
section
variable{P:Program}{Γ:TypeId→Option TI}{F N:Nat}{Q:GPost}{fr fr':Fr}{hp hp':List Ob}{ks:List Kt}
variable{ops:Array Oper}{rest:List Oper}{g:G}{α:Type}{enc:α→List D}
variable{d:Tmp}{op:Op}{ty t':TypeId}{pos:String}{after:Array Edge}{gd:Option (Nat×Bool)}
end
end Go.Gk
namespace Go.Gk
def ArAt{α:Type}(f:Nat→α→Ar)(A:List (Nat×α)→List Ar):Prop:=∃ rest,∀ l,(A l).Perm (arG f l++rest)
def appV{α:Type}(al:List Bool)(l:List (Nat×List α))(s:Vl)(m:List α):Option (Vl×List Bool×List (Nat×List α)):=
 bif m.isEmpty then none else match s.1 with
 | 0=>bi (apd [] m) fun r=>some ((al.length+1,r.length),al++[true],(al.length,r) :: l)
 | t+1=>bi (hGet l (t+1)) fun z=>gd (Nat.beq z.length s.2) (bi (apd z m) fun r=>some ((al.length+1,r.length),al.set t false++[true],(al.length,r) :: hDel l (t+1)))
def frzV{α:Type}(al:List Bool)(l:List (Nat×List α))(s:Vl):Option (List α×List Bool×List (Nat×List α)):=match s.1 with
 | 0=>some ([],al,l)
 | t+1=>bi (hGet l (t+1)) fun z=>gd (Nat.beq z.length s.2) (some (z,al.set t false++[true],hDel l (t+1)))
section
variable{P:Program}{Γ:TypeId→Option TI}{F N:Nat}{Q:GPost}{fr fr':Fr}{hp hp':List Ob}{ks:List Kt}
variable{ops:Array Oper}{rest:List Oper}{g:G}{α:Type}{enc:α→List D}
variable{d:Tmp}{op:Op}{ty t':TypeId}{pos:String}{after:Array Edge}{gd:Option (Nat×Bool)}
end
def mDel{K V:Type}[BEq K](m:List (K×V))(k:K):List (K×V):=match m.findIdx? fun e=>k==e.1 with
 | some i=>m.eraseIdx i
 | none=>m
section
variable{P:Program}{Γ:TypeId→Option TI}{F N:Nat}{Q:GPost}{fr fr':Fr}{hp hp':List Ob}
variable{d:Option Tmp}{op:Op}{ty t':TypeId}{pos:String}{after:Array Edge}{gd:Option (Nat×Bool)}
variable{K V:Type}[BEq K][KLt K]{kv:K→Value}{agg:Bool}{enc:V→List D}
end
end Go.Gk
namespace Go.Gk
section
variable{K V:Type}[BEq K][KLt K]
def bornOf(mr:List (K×V))(bs:List Nat)(cl:Nat)(k:K):Nat:=match mr.findIdx? fun e=>k==e.1 with
 | some i=>bs.getD i 0
 | none=>cl
def entR(mr:List (K×V))(k:K)(z:V):List (K×V):=match mr.findIdx? fun e=>k==e.1 with
 | some _=>mr
 | none=>mr++[(k,z)]
def entB(mr:List (K×V))(bs:List Nat)(cl:Nat)(k:K):List Nat:=match mr.findIdx? fun e=>k==e.1 with
 | some _=>bs
 | none=>bs++[cl]
def entC(mr:List (K×V))(cl:Nat)(k:K):Nat:=match mr.findIdx? fun e=>k==e.1 with
 | some _=>cl
 | none=>cl+1
def mEnt(m:List (K×V))(k:K)(z:V):List (K×V):=match m.findIdx? fun e=>k==e.1 with
 | some _=>m
 | none=>mIns k z m
end
section
variable{P:Program}{Γ:TypeId→Option TI}{F N:Nat}{Q:GPost}{fr fr':Fr}{hp hp':List Ob}{ks:List Kt}
variable{d:Tmp}{op:Op}{ty t':TypeId}{pos:String}{after:Array Edge}{gd:Option (Nat×Bool)}
variable{K V:Type}[BEq K][KLt K]{kv:K→Value}{agg:Bool}{enc:V→List D}
theorem Koi{c:Code}{id:Nat}(m:List (K×V))(ho:hp[id]?=some (mOb kv agg enc m))(hF:F≤hp.length)
  (k:∀ (mr:List (K×V)) (bs:List Nat) (cl:Nat),bs.length=mr.length→St.holds P F N Q (.code c ks) fr (hp.set id (mObS kv agg enc m (rawM kv enc mr bs cl)))):St.holds P F N Q (.code c ks) fr hp:=by
 intro Z w0 O0 M0 w M a hs ha hr
 have hid:id<hp.length:=(gEs.1 ho).1
 obtain⟨b,c0,hM⟩:∃ b c,M.l[id]?=some (some (b,c)):=by
  have e:M.l[id]?=some (M.l[id]'(by rw[hr.heap.len];exact hid)):=gGe _
  have:=hr.heap.obj id _ _ ho e
  revert this
  rw[e]
  cases M.l[id]'(by rw[hr.heap.len];exact hid) with
  | some p=>exact fun _=>⟨p.1,p.2,rfl⟩
  | none=>exact fun h=>h.elim
 obtain⟨m',ms,cl,hA⟩:=Kmx hr.heap ho hM
 have hbl:(ms.toList.map (·.born)).length=m'.length:=by simp[hA.size]
 obtain⟨r1,r2⟩:=Kne hr.heap ho (o':=mObS kv agg enc m (rawM kv enc m' (ms.toList.map (·.born)) cl)) rfl rfl fun q hq hob=>by
  rw[hM] at hq
  cases hq
  exact⟨ms,cl,_,hA.heap,hA.perm.map _,List.pairwise_map.2 hA.apart,fun raw h=>(by cases h;rfl),by simpa using hA.size,hA.born,fun j k' ds hj=>by
   rw[gMp] at hj
   obtain⟨y,hy,he⟩:=oMs.1 hj
   simp only[Prod.mk.injEq] at he
   obtain⟨rfl,rfl⟩:=he
   exact hA.get j y hy⟩
 have hst:Stp w (own hp M) w (own (hp.set id (mObS kv agg enc m (rawM kv enc m' (ms.toList.map (·.born)) cl))) M):=by rw[r2];exact .refl _ _
 refine k m' (ms.toList.map (·.born)) cl hbl Z w0 O0 M0 w M a (hs.trans hst) ha ⟨r1,fun t g hg=>?_,hr.size,hr.defers⟩
 obtain⟨v,h1,h2⟩:=hr.fr t g hg
 exact⟨v,h1,h2.step (Kpy Z hst) (fun _ _=>rfl)⟩
end
end Go.Gk
