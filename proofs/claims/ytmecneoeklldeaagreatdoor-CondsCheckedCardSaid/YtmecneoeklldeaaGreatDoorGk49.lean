import Derived.Test.YtmecneoeklldeaaGreatDoorGk39
import Derived.WideKeyRuns
set_option linter.all false
namespace Go.Gk
open Go.Instr
variable{P:Program}{Γ:TypeId→Option TI}{F N:Nat}{Q:GPost}{fr fr':Fr}{hp hp':List Ob}{ks:List Kt}
variable{α:Type}{enc:α→List D}{ops:Array Oper}{rest:List Oper}{g:G}
variable{d:Tmp}{op:Op}{ty:TypeId}{pos:String}{after:Array Edge}{gd':Option (Nat×Bool)}
end Go.Gk
namespace Go.Gk
abbrev Tl(α:Type):Type:=Nat×List α
def Slt{α:Type}(te:TypeId)(sz:Nat)(enc:α→List D)(s:Tl α):D:=.rt te sz s.1 s.2.length (s.2.flatMap enc)
def eT{α:Type}(te:TypeId)(sz:Nat)(enc:α→List D)(s:Tl α):List D:=[Slt te sz enc s]
theorem RelH.bag_none{Z:Env}{hp:List Ob}{M:Mp}{w:World}(hr:RelH Z hp M w){bg:Nat}{al:List Bool}{ar:List Ar}{lt:List (Nat×Nat)}(hbag:hp[bg]?=some (.bag al ar lt)):M.l[bg]?=some none∧ObR w (ownZ Z hp M) M (.bag al ar lt) none:=by
 have hbl:bg<hp.length:=(gEs.1 hbag).1
 have e:M.l[bg]?=some (M.l[bg]'(by rw[hr.len];exact hbl)):=gGe _
 have:=hr.obj bg _ _ hbag e
 revert this
 rw[e]
 cases M.l[bg]'(by rw[hr.len];exact hbl) with
 | none=>exact fun h=>⟨rfl,h⟩
 | some _=>exact fun h=>h.elim
section
variable{P:Program}{Γ:TypeId→Option TI}{F N:Nat}{Q:GPost}{fr fr':Fr}{hp hp':List Ob}{ks:List Kt}
variable{ops:Array Oper}{rest:List Oper}{g:G}{α:Type}{enc:α→List D}
variable{d:Tmp}{op:Op}{ty:TypeId}{pos:String}{after:Array Edge}{gd:Option (Nat×Bool)}
def appT{α:Type}(al:List Bool)(s:Tl α)(m:List α):Option (Tl α×List Bool):=
 bi (apd s.2 m) fun r=>bif m.isEmpty then some (s,al) else match s.1 with
  | 0=>none
  | 1=>some ((al.length+2,r),al++[true])
  | t+2=>bif (al[t]?).getD false then some ((al.length+2,r),al.set t false++[true]) else none
theorem Kmi{o:Oper}{g':G}(h:OpP P N o fr hp g)(hle:g.Le g'):OpP P N o fr hp g':=fun Z w M a hr=>let ⟨v,h1,h2⟩:=h Z w M a hr;⟨v,h1,hle _ _ _ _ h2⟩
abbrev fTag(l:List α):Nat:=bif l.isEmpty then 0 else 1
section
variable{hpL:List Ob}{ll hl bl:List Nat}{k:Nat}{QF:Fr→List Ob→Prop}
end
end
end Go.Gk
namespace Go.Gk
def updA{α:Type}(k:Int)(j:Nat)(v a:α):α:=if k=(j:Int) then v else a
def updL{α:Type}(k:Int)(v:α):Nat→List α→List α
 | _,[]=>[]
 | j,a :: l=>updA k j v a :: updL k v (j+1) l
section
variable{P:Program}{Γ:TypeId→Option TI}{F N:Nat}{Q:GPost}{fr fr':Fr}{hp:List Ob}{ks:List Kt}
variable{α:Type}{enc:α→List D}{ops:Array Oper}{rest:List Oper}{g:G}
variable{d:Tmp}{op:Op}{ty:TypeId}{pos:String}{after:Array Edge}{gd':Option (Nat×Bool)}
theorem Kmj{t e:TypeId}{k:IntKind}{n d:Nat}(w:World)(hu:P.underlying t=some (.array n e))(he:P.underlying e=some (.int k))(hs:(sizeOf e).run P w=.ok 1 w){xs ys:List Int}{X Y:Array Value}
  (hX:∀ (j:Nat) (x:Int),xs[j]?=some x→X[j]?=some (.int k x)) (hY:∀ (j:Nat) (x:Int),ys[j]?=some x→Y[j]?=some (.int k x)) (hx:xs.length=n) (hy:ys.length=n) :
  (Op.equalIn (d+2) t (.agg X) (.agg Y)).run P w=.ok (decide (xs=ys)) w:=by
 have hpk:P.plainKey e=true:=by unfold Program.plainKey;rw[he]
 rw[Op.equalIn]
 simp only[Sem.run_bind,run_underlying hu,Result.andThen_ok,hs]
 rw[Std.Legacy.Range.forIn_eq_forIn_range']
 simp only[Std.Legacy.Range.size,Nat.sub_zero,Nat.add_sub_cancel,Nat.div_one,Nat.mul_one]
 have key:∀ (m o:Nat),o+m=n→(forIn (m:=Sem) (List.range' o m 1) ((none,()):Option Bool×Unit) fun i r=>do
   let a←part e X i
   let b←part e Y i
   let q←Op.equalIn (d+1) e a b
   if (!q)=true then pure (ForInStep.done (some false,())) else pure (ForInStep.yield (none,()))).run P w=.ok (if xs.drop o=ys.drop o then(none,()) else(some false,())) w:=by
  intro m
  induction m with
  | zero=>
   intro o ho
   rw[List.drop_eq_nil_of_le (by omega),List.drop_eq_nil_of_le (by omega)]
   simp
  | succ m ih=>
   intro o ho
   have hox:o<xs.length:=by omega
   have hoy:o<ys.length:=by omega
   rw[List.range'_succ,List.forIn_cons]
   simp only[Sem.run_bind,run_part_plain w hpk (hX o _ (List.getElem?_eq_getElem hox)),run_part_plain w hpk (hY o _ (List.getElem?_eq_getElem hoy)),Result.andThen_ok,run_equalIn_int w d e k k _ _ he]
   have e1:xs.drop o=xs[o] :: xs.drop (o+1):=List.drop_eq_getElem_cons hox
   have e2:ys.drop o=ys[o] :: ys.drop (o+1):=List.drop_eq_getElem_cons hoy
   by_cases hq:xs[o]=ys[o]
   ·simp only[hq,beq_self_eq_true,Bool.not_true,Bool.false_eq_true,if_false,Sem.run_pure,Result.andThen_ok]
    rw[ih (o+1) (by omega)]
    have:(xs.drop (o+1)=ys.drop (o+1))=(xs.drop o=ys.drop o):=propext ⟨fun h=>by rw[e1,e2,hq,h],fun h=>by rw[e1,e2] at h;exact(List.cons.inj h).2⟩
    simp only[this]
   ·have:¬ xs.drop o=ys.drop o:=fun h=>by rw[e1,e2] at h;exact hq (List.cons.inj h).1
    rw[if_neg this]
    simp only[beq_eq_false_iff_ne.2 hq,Bool.not_false,if_true,Sem.run_pure,Result.andThen_ok]
 have k0:=key n 0 (by omega)
 simp only[List.drop_zero] at k0
 rw[k0]
 by_cases h:xs=ys
 ·simp[h]
 ·simp[h]
theorem Kmk{w:World}{O:Ow}{M:Mp}{k:IntKind}{l:List Int}{xs:List G}{v:Value}(hl:xs=l.map fun z=>.d (.v (.int k z)))(h:VR w O M (.agg xs) v):∃ X,v=.agg X∧∀ (j:Nat) (x:Int),l[j]?=some x→X[j]?=some (.int k x):=by
 subst hl
 cases h with
 | agg hl ih=>
  rename_i X
  refine⟨X,rfl,fun j x hj=>?_⟩
  have hlt:j<X.size:=by rw[hl];simpa using (gEs.1 hj).1
  have e:X[j]?=some X[j]:=Array.getElem?_eq_getElem hlt
  have:=ih j (.d (.v (.int k x))) X[j] (by rw[gMp,hj];rfl) e
  rw[e,vr_v this]
theorem Kml(hΓ:TOK P Γ){t e t':TypeId}{i1 i2:TI}{x y:Operand}{l1 l2:List Int}{xs ys:List G}{k:IntKind}{n:Nat}(h1:Γ t=some i1)(h1':i1.desc=.array n e)(h2:Γ e=some i2)(h2':i2.desc=.int k)(hsz:i2.size=1)(hm:P.eqGuardType P.depth t=false)
  (hx:fr.ev x=some (.agg xs)) (hy:fr.ev y=some (.agg ys)) (hxs:xs=l1.map fun z=>.d (.v (.int k z))) (hys:ys=l2.map fun z=>.d (.v (.int k z))) (hl1:l1.length=n) (hl2:l2.length=n):OpP P N ⟨some d,.binOp .neq t x y t',ty,pos,after,gd'⟩ fr hp (B (!decide (l1=l2))):=fun Z w M a hr=>by
 obtain⟨X,eX,hX⟩:=Kmk hxs (hr.ev hx)
 obtain⟨Y,eY,hY⟩:=Kmk hys (hr.ev hy)
 obtain⟨u1,_⟩:=hΓ t _ h1
 obtain⟨u2,_⟩:=hΓ e _ h2
 rw[h1'] at u1
 rw[h2'] at u2
 have hs:=run_size' (P:=P) (w:=w) hΓ h2
 rw[hsz] at hs
 have h3:=Kmj (d:=9998) w u1 u2 hs hX hY hl1 hl2
 refine⟨.bool (!decide (l1=l2)),?_,.d (.v _ rfl)⟩
 simp only[execOp,eX,eY,Sem.run_bind,run_eqGuard_agg w _ t _ _ _ _ hm,Result.andThen_ok,run_neq_struct,h3]
 rfl
def Rn(P:Program)(F N:Nat)(Q:GPost)(c:Code)(ks:List Kt):Nat→Fr→List Ob→Prop
 | 0=>fun _ _=>False
 | n+1=>fun fr hp=>St.holds P F N Q (.code c (.mid (Rn P F N Q c ks n) :: ks)) fr hp
end
def insK(n:Int)(g:G):List (Int×G)→List (Int×G)
 | []=>[(n,g)]
 | e :: r=>if n<e.1 then(n,g) :: e :: r else e :: insK n g r
def pmE(k:IntKind)(m:List (Int×G)):List (Value×G):=m.map fun e=>(kI k e.1,e.2)
def unI(k:IntKind):List (Value×G)→Option (List (Int×G))
 | []=>some []
 | (.int k' n,g) :: r=>if k'=k then match unI k r with
   | some m=>some ((n,g) :: m)
   | none=>none
  else none
 | _=>none
section
variable{P:Program}{Γ:TypeId→Option TI}{F N:Nat}{Q:GPost}{fr fr':Fr}{hp hp':List Ob}{ks:List Kt}
variable{d:Tmp}{op:Op}{ty:TypeId}{pos:String}{after:Array Edge}{gd:Option (Nat×Bool)}
structure PmAt(w:World)(O:Ow)(M:Mp)(k:IntKind)(b:Nat)(m m':List (Int×G))(ms:Array MapEntry)(cl:Nat):Prop where
 perm:m'.Perm m
 apart:m'.Pairwise fun x y=>kI k x.1≠kI k y.1
 heap:w.heap[b]?=some (.map ms cl)
 size:ms.size=m'.length
 born:Born ms cl
 get:∀ (j:Nat) (x:Int×G),m'[j]?=some x→∃ e:MapEntry,ms[j]?=some e∧e.key=kI k x.1∧e.val.oneCell'=true∧VR w O M x.2 e.val
theorem PmAt.find{w:World}{O:Ow}{M:Mp}{k:IntKind}{b:Nat}{m m':List (Int×G)}{ms:Array MapEntry}{cl:Nat}(h:PmAt w O M k b m m' ms cl)(n:Int) :
  Instr.findNow (.int k) (kI k n) ms.toList 0=some ((m'.findIdx? fun e=>n==e.1).bind fun j=>(ms[j]?).map fun e=>(j,e.val)):=by
 have:=Klu (Klt k) n ms.toList m' 0 (by simpa using h.size) (fun j e x he hj=>by
  obtain⟨e',e1,e2,_⟩:=h.get j x hj
  have:e=e':=by
   have he':ms[j]?=some e:=by simpa using he
   rw[e1] at he';exact(oSi he').symm
  rw[this];exact e2)
 rw[this]
 congr 2
 funext j
 simp
end
end Go.Gk
namespace Go.Gk
def pf(ρ:List Nat)(i:Nat):Nat:=ρ.getD i i
def prmB(ρ σ:List Nat)(n0 n:Nat):Bool:=(List.range n).all (fun i=>Nat.blt (pf ρ i) n&&Nat.blt (pf σ i) n&&Nat.beq (pf σ (pf ρ i)) i&&Nat.beq (pf ρ (pf σ i)) i)&&(List.range n0).all fun i=>Nat.beq (pf ρ i) i
def prmObs(ρ σ:List Nat)(hp:List Ob):List Ob:=(List.range hp.length).map fun j=>(hp.getD (pf σ j) .dead).ren (pf ρ)
def ocat{α:Type}(f:Nat→Option (List α)):List Nat→Option (List α)
 | []=>some []
 | i :: r=>match f i with
  | some a=>match ocat f r with
   | some b=>some (a++b)
   | none=>none
  | none=>none
def bxOf(bx:List (Nat×List Nat))(k:Nat):List Nat:=match bx with
 | []=>[]
 | e :: r=>bif Nat.beq e.1 k then e.2 else bxOf r k
def bldSt(Γ:TypeId→Option TI)(fr:Fr)(xs:List Nat):Op→Option G
 | .build t parts=>match Γ t with
  | some ⟨.struct fs,a,b,z⟩=>bif (fs.toList.all fun f=>(Γ f.type).isSome)&&(z.cells.toList.all (·.oneCell')) then
    (evParts fr parts.toList).bind fun pg=>(fillG (placesG Γ fs) (zeroX xs ⟨.struct fs,a,b,z⟩) pg).map .agg
   else none
  | _=>none
 | _=>none
def xstep(Γ:TypeId→Option TI)(N:Nat)(hpL:List Ob)(ll:List Nat)(bx:List (Nat×List Nat))(full:Array Oper)(k:Nat)(fr:Fr)(o:Oper):Option Fr:=match o with
 | ⟨some d,.build t parts,ty,pos,after,none⟩=>bif Nat.blt d N then(bldSt Γ (fr.only (Oper.looksAt full ⟨some d,.build t parts,ty,pos,after,none⟩)) (bxOf bx k) (.build t parts)).map fun g=>(d,g) :: fr else none
 | _=>estep Γ N hpL ll [] full k fr o
def deadB(hpL:List Ob)(id:Nat):Bool:=match hpL[id]? with
 | some o=>!o.live
 | none=>true
def hst(Γ:TypeId→Option TI)(N:Nat)(hpL:List Ob)(full:Array Oper)(fr:Fr)(hp:List Ob):Oper→Option (Fr×List Ob)
 | ⟨some d,.box t x,ty,pos,after,none⟩=>bif Nat.blt d N then((fr.only (Oper.looksAt full ⟨some d,.box t x,ty,pos,after,none⟩)).ev x).bind fun g=>(cellsG g).bind fun gs=>bif gs.all G.one then some ((d,.ptr hp.length 0) :: fr,hp++[.box t gs]) else none else none
 | ⟨some d,.buildSlice t len parts,ty,pos,after,none⟩=>match Γ t with
  | some ⟨.slice e,_,_,_⟩=>match Γ e with
   | some i2=>bif Nat.blt d N&&(i2.zero.cells.toList.all (·.oneCell'))&&Nat.blt 0 i2.zero.cells.size&&Nat.ble (len * i2.size) 16777216&&Nat.ble len 16777216 then
     (evParts (fr.only (Oper.looksAt full ⟨some d,.buildSlice t len parts,ty,pos,after,none⟩)) parts.toList).bind fun pg=>(fillG (fun i=>some (i * i2.size,i2.size)) (zerosG i2 len) pg).bind fun gs=>(toDs gs).bind fun ds=>some ((d,.sl hp.length len) :: fr,hp++[.row e i2.size len ds])
    else none
   | none=>none
  | _=>none
 | ⟨none,.store t x y,ty,pos,after,none⟩=>match Γ t with
  | some i=>match (fr.only (Oper.looksAt full ⟨none,.store t x y,ty,pos,after,none⟩)).ev x with
   | some (.ptr id off)=>match hp[id]? with
    | some (.box tb gs)=>((fr.only (Oper.looksAt full ⟨none,.store t x y,ty,pos,after,none⟩)).ev y).bind fun g=>(cellsG g).bind fun new=>
      bif new.all G.one&&Nat.beq new.length i.size&&Nat.ble (off+new.length) gs.length&&deadB hpL id then some (fr,hp.set id (.box tb (setAt gs off new))) else none
    | _=>none
   | _=>none
  | none=>none
 | ⟨some d,.makeMap t none,ty,pos,after,none⟩=>match Γ t with
  | some ⟨.map kt et,_,_,_⟩=>match Γ et with
   | some ⟨.pointer _,_,_,_⟩=>bif Nat.blt d N then some ((d,.map hp.length) :: fr,hp++[.pm []]) else none
   | _=>none
  | _=>none
 | ⟨none,.insert t x y z,ty,pos,after,none⟩=>match Γ t with
  | some ⟨.map kt et,_,_,_⟩=>match Γ kt with
   | some ⟨.int k,_,_,_⟩=>match (fr.only (Oper.looksAt full ⟨none,.insert t x y z,ty,pos,after,none⟩)).ev x with
    | some (.map id)=>match hp[id]? with
     | some (.pm es)=>match (fr.only (Oper.looksAt full ⟨none,.insert t x y z,ty,pos,after,none⟩)).ev y with
      | some (.d (.v (.int k' n)))=>((fr.only (Oper.looksAt full ⟨none,.insert t x y z,ty,pos,after,none⟩)).ev z).bind fun gv=>(unI k es).bind fun m=>
        bif decide (k'=k)&&gv.one&&(m.all fun e=>!(e.1==n))&&deadB hpL id then some (fr,hp.set id (.pm (pmE k (insK n gv m)))) else none
      | _=>none
     | _=>none
    | _=>none
   | _=>none
  | _=>none
 | ⟨some d,.lookup t x y false,ty,pos,after,none⟩=>match Γ t with
  | some ⟨.map kt et,_,_,_⟩=>match Γ kt with
   | some ⟨.int k,_,_,_⟩=>match (fr.only (Oper.looksAt full ⟨some d,.lookup t x y false,ty,pos,after,none⟩)).ev x with
    | some (.map id)=>match hp[id]? with
     | some (.pm es)=>match (fr.only (Oper.looksAt full ⟨some d,.lookup t x y false,ty,pos,after,none⟩)).ev y with
      | some (.d (.v (.int k' n)))=>(unI k es).bind fun m=>match m.find? (fun e=>n==e.1) with
       | some (n',gv)=>bif Nat.blt d N&&decide (k'=k)&&decide (n'=n) then some ((d,gv) :: fr,hp) else none
       | none=>none
      | _=>none
     | _=>none
    | _=>none
   | _=>none
  | _=>none
 | _=>none
def anyR(Γ:TypeId→Option TI)(N:Nat)(hpL:List Ob)(ll hl:List Nat)(bx:List (Nat×List Nat))(ops:Array Oper):Nat→Array Bool→Fr→List Ob→Option (List (Fr×List Ob))
 | 0,listed,fr,hp=>match Region.ready .any ops listed with
  | []=>some [(fr,hp)]
  | _ :: _=>none
 | fuel+1,listed,fr,hp=>match Region.ready .any ops listed with
  | []=>some [(fr,hp)]
  | i0 :: r=>match (i0 :: r).find? fun i=>!(inL hl i) with
   | some i=>match ops[i]? with
    | none=>none
    | some o=>bif Region.free .any ops listed i then match xstep Γ N hpL ll bx ops i fr o with
     | some fr'=>anyR Γ N hpL ll hl bx ops fuel (listed.setIfInBounds i true) fr' hp
     | none=>none
     else none
   | none=>ocat (fun i=>match ops[i]? with
     | none=>none
     | some o=>match hst Γ N hpL ops fr hp o with
      | some s=>anyR Γ N hpL ll hl bx ops fuel (listed.setIfInBounds i true) s.1 s.2
      | none=>none) (i0 :: r)
section
variable{P:Program}{Γ:TypeId→Option TI}{F N:Nat}{Q:GPost}{fr fr':Fr}{hp hp' hpL:List Ob}{ks:List Kt}{ll hl:List Nat}{bx:List (Nat×List Nat)}
variable{ops:Array Oper}
def LeafOk(n0:Nat)(s:Fr×List Ob)(p:List Nat×List Nat)(fr0:Fr)(hp0:List Ob):Prop:=
 prmB p.1 p.2 n0 s.2.length=true∧prmObs p.1 p.2 s.2=hp0∧fr0.map (fun e=>(Fr.get s.1 e.1).map (G.ren (pf p.1)))=fr0.map fun e=>some e.2
def leafN(n0:Nat)(T:List Nat)(s:Fr×List Ob)(p:List Nat×List Nat):Bool×List (Option G)×List Ob:=(prmB p.1 p.2 n0 s.2.length,T.map fun t=>(Fr.get s.1 t).map (G.ren (pf p.1)),prmObs p.1 p.2 s.2)
def leavesN(n0:Nat)(T:List Nat):List (Fr×List Ob)→List (List Nat×List Nat)→List (Bool×List (Option G)×List Ob)
 | [],_=>[]
 | s :: ss,p :: ps=>leafN n0 T s p :: leavesN n0 T ss ps
 | _ :: _,[]=>[(false,[],[])]
variable{fop:Operand}{args:Array Operand}{ts:Array TypeId}{f:FuncId}{g1 g2 gs gs':List G}
def D.isV:D→Bool
 | .v _=>true
 | _=>false
end
section
variable{P:Program}{Γ:TypeId→Option TI}{F N:Nat}{Q:GPost}{fr fr':Fr}{hp hp':List Ob}{ks:List Kt}
variable{K W:Type}[BEq K][KLt K]{kv:K→Value}{ops:Array Oper}{rest:List Oper}{g:G}
variable{d:Tmp}{op:Op}{ty:TypeId}{pos:String}{after:Array Edge}{gd:Option (Nat×Bool)}
end
end Go.Gk
namespace Go.Gk
def hdG(k:Option Nat)(id:Nat):G:=match k with
 | some off=>.ptr id off
 | none=>.map id
def Ar.ob:Ar→Ob
 | .map _ agg es=>.map agg es none
 | .box _ ty ds=>.box ty (ds.map .d)
 | .row _ ty sz n ds=>.row ty sz n ds
theorem Ar.ob_live(a:Ar):a.ob.live=true:=by cases a<;>rfl
theorem Ar.ob_bag(a:Ar):a.ob.isBag=false:=by cases a<;>rfl
theorem ArR.ob{w:World}{O:Ow}{M M':Mp}{a:Ar}(h:ArR w O M a)(hnr:a.isRow=false):∃ x:Tg,M.h[a.t]?=some (some x)∧x.sz=0∧ObR w O M' a.ob (some (x.b,0)):=by
 cases a with
 | map t agg es=>exact let ⟨x,e1,e2,e3⟩:=h;⟨x,e1,e2,e3⟩
 | box t ty ds=>
  obtain⟨x,e1,e2,cs,e3,e4,e5⟩:=h
  refine⟨x,e1,e2,cs,e3,by simp[e4],fun j g hg=>?_⟩
  rw[gMp] at hg
  obtain⟨d,hd,rfl⟩:=oMs.1 hg
  obtain⟨v,f1,f2⟩:=e5 j d hd
  exact⟨v,f1,f2.one,.d f2⟩
 | row _ _ _ _ _=>cases hnr
theorem RelH.lend{Z:Env}{hp:List Ob}{M:Mp}{w:World}(hr:RelH Z hp M w){bg:Nat}{al:List Bool}{ar ar':List Ar}{lt:List (Nat×Nat)}{a:Ar}(hbag:hp[bg]?=some (.bag al ar lt))(hperm:ar.Perm (a :: ar'))(hnr:a.isRow=false) :
  ∃ x:Tg,M.h[a.t]?=some (some x)∧RelH Z ((hp.set bg (.bag al ar' ((a.t,hp.length) :: lt)))++[a.ob]) (M.app [some (x.b,0)]) w∧own ((hp.set bg (.bag al ar' ((a.t,hp.length) :: lt)))++[a.ob]) (M.app [some (x.b,0)])=own hp M:=by
 obtain⟨hbm,q1,q2,q3,q4,q5,q6⟩:=hr.bag_none hbag
 have hbl:bg<hp.length:=(gEs.1 hbag).1
 have hmem:a∈ar:=hperm.mem_iff.2 (mCs ..)
 obtain⟨x,hx,hxz,hxo⟩:=(q4 a hmem).1.ob (M':=M) hnr
 refine⟨x,hx,?_⟩
 have hno:¬ obOwn hp M x.b:=fun h=>let ⟨id,h1⟩:=hr.bags.lnd bg al ar lt hbag a.t x hx h;(q4 a hmem).2.1 id h1
 have hpw:(a :: ar').Pairwise (fun a a'=>a.t≠a'.t):=(hperm.pairwise_iff fun h=>Ne.symm h).1 q5
 have hcase:∀ (i:Nat) (o:Ob),((hp.set bg (.bag al ar' ((a.t,hp.length) :: lt)))++[a.ob])[i]?=some o→(i≠bg∧i<hp.length∧hp[i]?=some o)∨(i=bg∧o=.bag al ar' ((a.t,hp.length) :: lt))∨(i=hp.length∧o=a.ob):=fun i o h=>by
  by_cases hi:i<hp.length
  ·rw[gAl (by simpa using hi)] at h
   by_cases hb:bg=i
   ·subst hb;rw[gSs hbl] at h;cases h;exact .inr (.inl ⟨rfl,rfl⟩)
   ·rw[gSn hb] at h;exact .inl ⟨Ne.symm hb,hi,h⟩
  ·rw[gAr (by simpa using hi)] at h
   simp only[List.length_set] at h
   have:i - hp.length=0:=by
    have:=(gEs.1 h).1
    simp at this;omega
   rw[this] at h
   simp at h
   exact .inr (.inr ⟨by omega,h.symm⟩)
 have hMo:∀ i,i<M.l.length→(M.app [some (x.b,0)]).l[i]?=M.l[i]?:=fun i hi=>gAl hi
 have hMn:(M.app [some (x.b,0)]).l[hp.length]?=some (some (x.b,0)):=by rw[←hr.len];simp
 have hob:∀ b,obOwn ((hp.set bg (.bag al ar' ((a.t,hp.length) :: lt)))++[a.ob]) (M.app [some (x.b,0)]) b ↔ obOwn hp M b∨b=x.b:=fun b=>by
  constructor
  ·rintro⟨i,o,c,h1,h2,h3⟩
   rcases hcase i o h1 with⟨_,hi,h⟩ | ⟨rfl,rfl⟩ | ⟨rfl,rfl⟩
   ·exact .inl ⟨i,o,c,h,h2,by rw[←hMo i (by rw[hr.len];exact hi)];exact h3⟩
   ·rw[hMo _ (by rw[hr.len];exact hbl),hbm] at h3;cases h3
   ·rw[hMn] at h3;cases h3;exact .inr rfl
  ·rintro(⟨i,o,c,h1,h2,h3⟩ | rfl)
   ·have hi:i<hp.length:=(gEs.1 h1).1
    have hne:bg≠i:=fun e=>by subst e;rw[hbm] at h3;cases h3
    exact⟨i,o,c,by rw[gAl (by simpa using hi),gSn hne];exact h1,h2,by rw[hMo i (by rw[hr.len];exact hi)];exact h3⟩
   ·exact⟨hp.length,a.ob,0,by rw[gAr (by simp)];simp,a.ob_live,hMn⟩
 have hg:hasBag hp:=⟨bg,al,ar,lt,hbag⟩
 have hg':hasBag ((hp.set bg (.bag al ar' ((a.t,hp.length) :: lt)))++[a.ob]):=⟨bg,al,ar',_,by rw[gAl (by simpa using hbl),gSs hbl]⟩
 have hown:own ((hp.set bg (.bag al ar' ((a.t,hp.length) :: lt)))++[a.ob]) (M.app [some (x.b,0)])=own hp M:=Knp (fun b=>by
  constructor
  ·rintro(h | ⟨_,h⟩)
   ·rcases(hob b).1 h with h | rfl
    ·exact .inl h
    ·exact .inr ⟨hg,x,mOg hx,rfl⟩
   ·exact .inr ⟨hg,h⟩
  ·rintro(h | ⟨_,h⟩)
   ·exact .inl ((hob b).2 (.inl h))
   ·exact .inr ⟨hg',h⟩) rfl ⟨fun _=>hg,fun _=>hg'⟩
 have hownZ:ownZ Z ((hp.set bg (.bag al ar' ((a.t,hp.length) :: lt)))++[a.ob]) (M.app [some (x.b,0)])=ownZ Z hp M:=by unfold ownZ;rw[hown]
 have hbags:∀ (i:Nat) (al1:List Bool) (ar1:List Ar) (lt1:List (Nat×Nat)),((hp.set bg (.bag al ar' ((a.t,hp.length) :: lt)))++[a.ob])[i]?=some (.bag al1 ar1 lt1)→i=bg∧lt1=(a.t,hp.length) :: lt:=fun i al1 ar1 lt1 h=>by
  rcases hcase i _ h with⟨h1,_,h2⟩ | ⟨h1,h2⟩ | ⟨_,h2⟩
  ·exact absurd (hr.bags.one _ _ _ _ _ _ _ _ h2 hbag) h1
  ·cases h2;exact⟨h1,rfl⟩
  ·have:=a.ob_bag;rw[←h2] at this;cases this
 refine⟨⟨by simp[hr.len],fun i o m h1 h2=>?_,fun b hb hz=>hr.apart b (by rw[hown] at hb;exact hb) hz,hr.old,hr.amb,fun i j oi oj b c c' hi hj li lj mi mj=>?_,⟨fun y hy=>⟨(hr.bags.tgs y hy).1,fun hz h=>?_⟩,fun i j al1 al2 ar1 ar2 lt1 lt2 hi hj=>(hbags i _ _ _ hi).1.trans (hbags j _ _ _ hj).1.symm,fun i al1 ar1 lt1 hi t y hy h=>?_,hr.bags.hds⟩⟩,hown⟩
 ·rw[hownZ]
  rcases hcase i o h1 with⟨hne,hi,h⟩ | ⟨rfl,rfl⟩ | ⟨rfl,rfl⟩
  ·rw[hMo i (by rw[hr.len];exact hi)] at h2
   have:=hr.obj i o m h h2
   exact this.move (k:=M.l.length) (.refl _ _) hMo this.bel (fun _ _ _ _=>rfl) (fun _ _ _ _=>⟨rfl,fun _ _ _=>rfl⟩)
  ·rw[hMo _ (by rw[hr.len];exact hbl),hbm] at h2
   cases h2
   refine⟨q1,q2,q3,fun a1 ha1=>⟨((q4 a1 (hperm.mem_iff.2 (mCo _ ha1))).1).same rfl,fun id hm=>?_,(q4 a1 (hperm.mem_iff.2 (mCo _ ha1))).2.2⟩,(List.pairwise_cons.1 hpw).2,fun t id hm=>?_⟩
   ·rcases List.mem_cons.1 hm with e | hm
    ·exact(List.pairwise_cons.1 hpw).1 a1 ha1 (congrArg Prod.fst e).symm
    ·exact(q4 a1 (hperm.mem_iff.2 (mCo _ ha1))).2.1 id hm
   ·rcases List.mem_cons.1 hm with e | hm
    ·cases e;exact⟨x,0,hx,hxz,hMn⟩
    ·obtain⟨y,c,e1,e2,e3⟩:=q6 t id hm
     exact⟨y,c,e1,e2,(hMo id (Mp.lt e3)).trans e3⟩
  ·rw[hMn] at h2
   cases h2
   exact hxo.move (k:=M.l.length) (.refl _ _) hMo hxo.bel (fun _ _ _ _=>rfl) (fun _ _ _ e=>by have:=a.ob_bag;rw[e] at this;cases this)
 ·rcases hcase i oi hi with⟨_,hil,hi⟩ | ⟨rfl,rfl⟩ | ⟨rfl,rfl⟩
  ·rw[hMo i (by rw[hr.len];exact hil)] at mi
   rcases hcase j oj hj with⟨_,hjl,hj⟩ | ⟨rfl,rfl⟩ | ⟨rfl,rfl⟩
   ·rw[hMo j (by rw[hr.len];exact hjl)] at mj
    exact hr.inj i j oi oj b c c' hi hj li lj mi mj
   ·rw[hMo _ (by rw[hr.len];exact hbl),hbm] at mj;cases mj
   ·rw[hMn] at mj;cases mj;exact absurd ⟨i,oi,c,hi,li,mi⟩ hno
  ·rw[hMo _ (by rw[hr.len];exact hbl),hbm] at mi;cases mi
  ·rw[hMn] at mi
   cases mi
   rcases hcase j oj hj with⟨_,hjl,hj⟩ | ⟨rfl,rfl⟩ | ⟨rfl,rfl⟩
   ·rw[hMo j (by rw[hr.len];exact hjl)] at mj
    exact absurd ⟨j,oj,c',hj,lj,mj⟩ hno
   ·rw[hMo _ (by rw[hr.len];exact hbl),hbm] at mj;cases mj
   ·rfl
 ·rcases(hob _).1 h with h | e
  ·exact(hr.bags.tgs y hy).2 hz h
  ·obtain⟨t,ht⟩:=List.getElem?_of_mem hy
   have ht':M.h[t]?=some (some y):=ht
   have:=hr.bags.hds a.t t x y hx ht' hxz e
   subst this
   rw[hx] at ht'
   cases ht'
   omega
 ·obtain⟨_,rfl⟩:=hbags i _ _ _ hi
  have hy':M.h[t]?=some (some y):=hy
  rcases(hob _).1 h with h | e
  ·obtain⟨id,h1⟩:=hr.bags.lnd bg al ar lt hbag t y hy' h
   exact⟨id,mCo _ h1⟩
  ·have:=hr.bags.hds a.t t x y hx hy' hxz e
   subst this
   exact⟨hp.length,mCs ..⟩
def Ar.of:Ar→Ob→Prop
 | .map _ agg es,.map agg' es' _=>agg'=agg∧es'=es
 | .box _ ty ds,.box ty' gs=>ty'=ty∧gs=ds.map .d
 | _,_=>False
theorem ArR.of_ob{w:World}{O:Ow}{M:Mp}{a:Ar}{o:Ob}{x:Tg}{c:Nat}(ha:a.of o)(h:ObR w O M o (some (x.b,c)))(hx:M.h[a.t]?=some (some x))(hz:x.sz=0):ArR w O M a:=by
 cases a with
 | map t agg es=>
  cases o with
  | map agg' es' st=>
   obtain⟨rfl,rfl⟩:=ha
   obtain⟨ms,cl,es',h1,p1,p2,p3,h2⟩:=h
   exact⟨x,hx,hz,ms,cl,es',h1,p1,p2,(fun raw e=>by cases e),h2⟩
  | _=>exact ha.elim
 | box t ty ds=>
  cases o with
  | box ty' gs=>
   obtain⟨rfl,rfl⟩:=ha
   obtain⟨cs,h1,h2,h3⟩:=h
   refine⟨x,hx,hz,cs,h1,by simpa using h2,fun j d hd=>?_⟩
   obtain⟨v,e1,e2,e3⟩:=h3 j (.d d) (by rw[gMp,hd];rfl)
   refine⟨v,e1,?_⟩
   cases e3 with
   | d h=>exact h
  | _=>exact ha.elim
 | row _ _ _ _ _=>cases o<;>exact ha.elim
theorem RelH.back{Z:Env}{hp:List Ob}{M:Mp}{w:World}(hr:RelH Z hp M w){bg id:Nat}{al:List Bool}{ar:List Ar}{a:Ar}{o:Ob}(hbag:hp[bg]?=some (.bag al ar [(a.t,id)]))(ho:hp[id]?=some o)(hl:o.live=true)(hoa:a.of o) :
  RelH Z ((hp.set id .dead).set bg (.bag al (a :: ar) [])) M w∧own ((hp.set id .dead).set bg (.bag al (a :: ar) [])) M=own hp M:=by
 obtain⟨hbm,q1,q2,q3,q4,q5,q6⟩:=hr.bag_none hbag
 have hbl:bg<hp.length:=(gEs.1 hbag).1
 have hid:id<hp.length:=(gEs.1 ho).1
 obtain⟨x,c0,hx,hxz,hMx⟩:=q6 a.t id (mCs ..)
 have hcase:∀ (i:Nat) (o1:Ob),((hp.set id .dead).set bg (.bag al (a :: ar) []))[i]?=some o1→(i≠bg∧i≠id∧hp[i]?=some o1)∨(i=bg∧o1=.bag al (a :: ar) [])∨(i≠bg∧o1=.dead):=fun i o1 h=>by
  by_cases hb:bg=i
  ·subst hb;rw[gSs (by simpa using hbl)] at h;cases h;exact .inr (.inl ⟨rfl,rfl⟩)
  ·rw[gSn hb] at h
   by_cases hi:id=i
   ·subst hi;rw[gSs hid] at h;cases h;exact .inr (.inr ⟨Ne.symm hb,rfl⟩)
   ·rw[gSn hi] at h;exact .inl ⟨Ne.symm hb,Ne.symm hi,h⟩
 have hob:∀ b,obOwn ((hp.set id .dead).set bg (.bag al (a :: ar) [])) M b→obOwn hp M b∧b≠x.b:=fun b h=>by
  obtain⟨i,o1,c,h1,h2,h3⟩:=h
  rcases hcase i o1 h1 with⟨_,hi,h⟩ | ⟨rfl,rfl⟩ | ⟨_,rfl⟩
  ·exact⟨⟨i,o1,c,h,h2,h3⟩,fun e=>by subst e;exact hi (hr.inj i id o1 o _ c c0 h ho h2 hl h3 hMx)⟩
  ·rw[hbm] at h3;cases h3
  ·cases h2
 have hob2:∀ b,obOwn hp M b→obOwn ((hp.set id .dead).set bg (.bag al (a :: ar) [])) M b∨b=x.b:=fun b h=>by
  obtain⟨i,o1,c,h1,h2,h3⟩:=h
  have hne:bg≠i:=fun e=>by subst e;rw[hbm] at h3;cases h3
  by_cases hi:id=i
  ·subst hi;rw[hMx] at h3;cases h3;exact .inr rfl
  ·exact .inl ⟨i,o1,c,by rw[gSn hne,gSn hi];exact h1,h2,h3⟩
 have hg:hasBag hp:=⟨bg,al,ar,_,hbag⟩
 have hg':hasBag ((hp.set id .dead).set bg (.bag al (a :: ar) [])):=⟨bg,al,_,_,gSs (by simpa using hbl)⟩
 have hown:own ((hp.set id .dead).set bg (.bag al (a :: ar) [])) M=own hp M:=Knp (fun b=>by
  constructor
  ·rintro(h | ⟨_,h⟩)
   ·exact .inl (hob b h).1
   ·exact .inr ⟨hg,h⟩
  ·rintro(h | ⟨_,h⟩)
   ·rcases hob2 b h with h | rfl
    ·exact .inl h
    ·exact .inr ⟨hg',x,mOg hx,rfl⟩
   ·exact .inr ⟨hg',h⟩) rfl ⟨fun _=>hg,fun _=>hg'⟩
 have hownZ:ownZ Z ((hp.set id .dead).set bg (.bag al (a :: ar) [])) M=ownZ Z hp M:=by unfold ownZ;rw[hown]
 have hbags:∀ (i:Nat) (al1:List Bool) (ar1:List Ar) (lt1:List (Nat×Nat)),((hp.set id .dead).set bg (.bag al (a :: ar) []))[i]?=some (.bag al1 ar1 lt1)→i=bg:=fun i al1 ar1 lt1 h=>by
  rcases hcase i _ h with⟨h1,_,h2⟩ | ⟨h1,h2⟩ | ⟨_,h2⟩
  ·exact absurd (hr.bags.one _ _ _ _ _ _ _ _ h2 hbag) h1
  ·exact h1
  ·cases h2
 refine⟨⟨by simp[hr.len],fun i o1 m h1 h2=>?_,fun b hb hz=>hr.apart b (by rw[hown] at hb;exact hb) hz,hr.old,hr.amb,fun i j oi oj b c c' hi hj li lj mi mj=>?_,⟨fun y hy=>⟨(hr.bags.tgs y hy).1,fun hz h=>(hr.bags.tgs y hy).2 hz (hob _ h).1⟩,fun i j al1 al2 ar1 ar2 lt1 lt2 hi hj=>(hbags i _ _ _ hi).trans (hbags j _ _ _ hj).symm,fun i al1 ar1 lt1 hi t y hy h=>?_,hr.bags.hds⟩⟩,hown⟩
 ·rw[hownZ]
  rcases hcase i o1 h1 with⟨_,hi,h⟩ | ⟨rfl,rfl⟩ | ⟨_,rfl⟩
  ·exact hr.obj i o1 m h h2
  ·rw[hbm] at h2
   cases h2
   refine⟨q1,q2,q3,fun a1 ha1=>⟨?_,fun id hm=>by simp at hm,fun hrow=>?_⟩,List.pairwise_cons.2 ⟨fun a1 ha1 e=>(q4 a1 ha1).2.1 id (by rw[e];exact mCs ..),q5⟩,fun t id hm=>by simp at hm⟩
   rotate_left
   ·rcases List.mem_cons.1 ha1 with rfl | ha1
    ·cases a1<;>first | (cases hrow;done) | (cases o<;>exact hoa.elim)
    ·exact(q4 a1 ha1).2.2 hrow
   rcases List.mem_cons.1 ha1 with rfl | ha1
   ·exact ArR.of_ob hoa (hr.obj id o _ ho hMx) hx hxz
   ·exact(q4 a1 ha1).1
  ·cases m<;>trivial
 ·have key:∀ (i:Nat) (o1:Ob) (c:Nat),((hp.set id .dead).set bg (.bag al (a :: ar) []))[i]?=some o1→o1.live=true→M.l[i]?=some (some (b,c))→hp[i]?=some o1:=fun i o1 c e1 e2 e3=>by
   rcases hcase i o1 e1 with⟨_,_,h⟩ | ⟨rfl,rfl⟩ | ⟨_,rfl⟩
   ·exact h
   ·rw[hbm] at e3;cases e3
   ·cases e2
  exact hr.inj i j oi oj b c c' (key i oi c hi li mi) (key j oj c' hj lj mj) li lj mi mj
 ·exfalso
  obtain⟨h1,h2⟩:=hob _ h
  obtain⟨id',h3⟩:=hr.bags.lnd bg al ar _ hbag t y hy h1
  simp at h3
  obtain⟨rfl,rfl⟩:=h3
  rw[hx] at hy
  cases hy
  exact h2 rfl
section
variable{P:Program}{Γ:TypeId→Option TI}{F N:Nat}{Q:GPost}{fr fr':Fr}{hp hp':List Ob}{ks:List Kt}
variable{ops:Array Oper}{rest:List Oper}{g:G}{α:Type}{enc:α→List D}
def AllHd(fr:Fr)(id:Nat):List (Nat×Option Nat)→Prop
 | []=>True
 | e :: L=>fr.get e.1=some (hdG e.2 id)∧AllHd fr id L
def hdL:List (Nat×Option Nat)→Nat→Fr
 | [],_=>[]
 | e :: L,h=>(e.1,.d (.hd e.2 h)) :: hdL L h
theorem AllHd.at{fr:Fr}{id:Nat}:∀ {L:List (Nat×Option Nat)},AllHd fr id L→∀ {t:Nat} {k:Option Nat},(t,k)∈L→fr.get t=some (hdG k id)
 | e :: L,h,t,k,hm=>by
  rcases List.mem_cons.1 hm with rfl | hm
  ·exact h.1
  exact AllHd.at h.2 hm
end
end Go.Gk
namespace Go.Gk
def hGet{α:Type}(l:List (Nat×α)):Nat→Option α
 | 0=>none
 | t+1=>(l.find? fun e=>t==e.1).map (·.2)
def hSet{α:Type}(l:List (Nat×α))(h:Nat)(x:α):List (Nat×α):=match h with
 | 0=>l
 | t+1=>match l.findIdx? (fun e=>t==e.1) with
  | some i=>l.set i (t,x)
  | none=>l
def hDel{α:Type}(l:List (Nat×α))(h:Nat):List (Nat×α):=match h with
 | 0=>l
 | t+1=>match l.findIdx? (fun e=>t==e.1) with
  | some i=>l.eraseIdx i
  | none=>l
abbrev arG{α:Type}(f:Nat→α→Ar)(l:List (Nat×α)):List Ar:=l.map fun e=>f e.1 e.2
abbrev fM{K V:Type}(kv:K→Value)(agg:Bool)(enc:V→List D)(t:Nat)(m:List (K×V)):Ar:=.map t agg (m.map fun e=>(kv e.1,enc e.2))
abbrev fB{X:Type}(ty:TypeId)(enc:X→List D)(t:Nat)(x:X):Ar:=.box t ty (enc x)
def ArU(ar:List Ar)(h:Nat)(a a':Ar)(arn:List Ar):Prop:=h=a.t+1∧a'.t=a.t∧∃ ar',ar.Perm (a :: ar')∧arn.Perm (a' :: ar')
def ArD(ar:List Ar)(h:Nat)(a:Ar)(ar':List Ar):Prop:=h=a.t+1∧ar.Perm (a :: ar')
theorem ArU.l{ar arn:List Ar}{h:Nat}{a a':Ar}(r:List Ar)(hu:ArU ar h a a' arn):ArU (ar++r) h a a' (arn++r):=
 let ⟨h1,h2,ar',h3,h4⟩:=hu;⟨h1,h2,ar'++r,h3.append_right r,h4.append_right r⟩
theorem ArU.r{ar arn:List Ar}{h:Nat}{a a':Ar}(l:List Ar)(hu:ArU ar h a a' arn):ArU (l++ar) h a a' (l++arn):=
 let ⟨h1,h2,ar',h3,h4⟩:=hu;⟨h1,h2,l++ar',(h3.append_left l).trans List.perm_middle,(h4.append_left l).trans List.perm_middle⟩
theorem ArD.l{ar ar':List Ar}{h:Nat}{a:Ar}(r:List Ar)(hu:ArD ar h a ar'):ArD (ar++r) h a (ar'++r):=⟨hu.1,hu.2.append_right r⟩
theorem ArD.r{ar ar':List Ar}{h:Nat}{a:Ar}(l:List Ar)(hu:ArD ar h a ar'):ArD (l++ar) h a (l++ar'):=⟨hu.1,(hu.2.append_left l).trans List.perm_middle⟩
abbrev eH(kd:Option Nat)(h:Nat):List D:=[.hd kd h]
def ZDv(agg:Bool)(ds:List D)(v:Value):Prop:=∀ w O,DV w O agg ds v
theorem G.Le.hdN{kd:Option Nat}:G.Le (.d (.v (hval kd none))) (.d (.hd kd 0)):=fun w O M v hv=>by
 rw[vr_v hv]
 exact .d (.hd _ _ _ rfl)
section
variable{P:Program}{Γ:TypeId→Option TI}{F N:Nat}{Q:GPost}{fr fr':Fr}{hp hp':List Ob}{ks:List Kt}
variable{ops:Array Oper}{rest:List Oper}{g:G}
variable{d:Tmp}{op:Op}{ty t':TypeId}{pos:String}{after:Array Edge}{gd:Option (Nat×Bool)}
variable{K V:Type}[BEq K][KLt K]{kv:K→Value}{agg:Bool}{enc:V→List D}
end
end Go.Gk
namespace Go.Gk
def rangeW{α σ:Type}(f:α→σ→Option σ)(m:List α)(s:σ)(Q:σ→Prop):Prop:=∀ m':List α,m'.Perm m→∃ r,rangeL f m' s=some r∧Q r
def okW{α:Type}(o:Option α)(Q:α→Prop):Prop:=∃ r,o=some r∧Q r
def loopW{σ ρ:Type}(G:σ→(LS σ ρ→Prop)→Prop):Nat→σ→(ρ→Prop)→Prop
 | 0,_,_=>False
 | k+1,s,Q=>G s fun x=>match x with
  | .go s'=>loopW G k s' Q
  | .out r=>Q r
noncomputable def loopD {σ ρ:Type} (G:σ→(LS σ ρ→Prop)→Prop) (k:Nat) (s:σ):Option ρ:=
 open Classical in if h:∃ r,loopW G k s (fun r'=>r'=r) then some (Classical.choose h) else none
structure WOk{σ ρ:Type}(G:σ→(LS σ ρ→Prop)→Prop):Prop where
 mono:∀ s (C D:LS σ ρ→Prop),(∀ x,C x→D x)→G s C→G s D
 both:∀ s (C D:LS σ ρ→Prop),G s C→G s D→∃ x,C x∧D x
section
variable{P:Program}{F N:Nat}{Q:GPost}{fr fr':Fr}{hp hp':List Ob}{ks:List Kt}
variable{K V:Type}[BEq K][KLt K]{kv:K→Value}{agg:Bool}{enc:V→List D}
end
end Go.Gk
namespace Go.Gk
structure KeyP(P:Program){K:Type}[BEq K](kt:TypeId)(kv:K→Value):Prop where
 find:∀ (w:World) (k:K) (l:List MapEntry) (m:List K),l.length=m.length→(∀ (j:Nat) (e:MapEntry) (x:K),l[j]?=some e→m[j]?=some x→e.key=kv x)→
  (Instr.findKey kt (kv k) l).run P w=.ok ((m.findIdx? fun x=>k==x).bind fun j=>(l[j]?).map fun e=>(j,e.val)) w
 check:∀ (w:World) (em:Bool) (k:K),(Instr.checkKey em 10000 kt (kv k)).run P w=.ok () w
 bits:∀ a b:K,(a==b)=true→Instr.sameBits 10000 (kv b) (kv a)=true
 ne:∀ a b:K,(a==b)=false→kv b≠kv a
 eq:∀ a b:K,(a==b)=true→a=b
 refl:∀ a:K,(a==a)=true
abbrev D.val:D→Value
 | .v x=>x
 | _=>.bool false
abbrev kD{K:Type}(enc:K→List D)(k:K):Value:=.agg ((enc k).map D.val).toArray
abbrev kG{K:Type}(enc:K→List D)(k:K):G:=.agg ((enc k).map G.d)
def Env.nil:Env:=⟨fun _=>False,fun _=>False,fun _ h=>h,fun _=>False,fun _ _ _ h=>h,fun _ h=>h.elim⟩
def D.isVal:D→Bool
 | .v x=>x.oneCell'
 | _=>false
def flatK:TypeDesc→Bool
 | .int _ | .bool | .string=>true
 | _=>false
def flatFs(Γ:TypeId→Option TI)(xs:List G):List Field→Bool
 | []=>true
 | f :: fs=>(match Γ f.type with
  | some ⟨.int k,a,b,z⟩=>(partG ⟨.int k,a,b,z⟩ xs f.offset).isSome
  | some ⟨.bool,a,b,z⟩=>(partG ⟨.bool,a,b,z⟩ xs f.offset).isSome
  | some ⟨.string,a,b,z⟩=>(partG ⟨.string,a,b,z⟩ xs f.offset).isSome
  | _=>false)&&flatFs Γ xs fs
section
variable{P:Program}{Γ:TypeId→Option TI}
end
section
variable{P:Program}{Γ:TypeId→Option TI}{F N:Nat}{Q:GPost}{fr fr':Fr}{hp hp':List Ob}{ks:List Kt}
variable{ops:Array Oper}{rest:List Oper}{g:G}
variable{d:Tmp}{op:Op}{ty:TypeId}{pos:String}{after:Array Edge}{gd:Option (Nat×Bool)}
variable{K V:Type}[BEq K][KLt K]{kv:K→Value}{agg:Bool}{enc:V→List D}{kenc:K→List D}
end
end Go.Gk
namespace Go.Gk
def rangeLM{α σ ρ:Type}(f:α→σ→Option (LS σ ρ)):List α→σ→Option (LS σ ρ)
 | [],s=>some (.go s)
 | x :: l,s=>match f x s with
  | some (.go s')=>rangeLM f l s'
  | some (.out r)=>some (.out r)
  | none=>none
noncomputable def rangePM {α σ ρ:Type} (f:α→σ→Option (LS σ ρ)) (m:List α) (s:σ):Option (LS σ ρ):=
 open Classical in if h:∃ r,∀ m':List α,m'.Perm m→rangeLM f m' s=some r then some (Classical.choose h) else none
def asc(s:List UInt8):Bool:=s.all fun b=>decide (b.toNat<128)
section
variable{P:Program}{Γ:TypeId→Option TI}{F N:Nat}{Q:GPost}{fr fr':Fr}{hp hp':List Ob}{ks:List Kt}
variable{ops:Array Oper}{rest:List Oper}{g:G}
variable{d:Tmp}{op:Op}{ty:TypeId}{pos:String}{after:Array Edge}{gd:Option (Nat×Bool)}
variable{K V:Type}[BEq K][KLt K]
end
end Go.Gk
namespace Go.Gk
structure Spec where
 k:Nat
 fr:Fr
 g:G
 ch:Option (Nat×Ob×Ob)
abbrev LogE:=(List (Option G)×Option Ob)×(List (Option G)×Option Ob)
def SpecOk(P:Program)(N:Nat)(ops:Array Oper)(sp:Spec):Prop:=∃ (o:Oper) (d:Tmp),ops[sp.k]?=some o∧o.dst=some d∧d<N∧o.guard=none∧(∀ t g,sp.fr.get t=some g→t∈o.looksAt ops)∧
 match sp.ch with
 | none=>∀ hp,QtE P N o sp.fr hp sp.g hp
 | some (id,x,y)=>∀ hp,hp.all Ob.sole=true→hp[id]?=some x→QtE P N o sp.fr hp sp.g (hp.set id y)
def SpecsOk(P:Program)(N:Nat)(ops:Array Oper):List Spec→Prop
 | []=>True
 | s :: r=>SpecOk P N ops s∧SpecsOk P N ops r
def Spec.log(sp:Spec)(fr:Fr)(hp:List Ob):LogE:=match sp.ch with
 | none=>((sp.fr.map fun e=>fr.get e.1,none),(sp.fr.map fun e=>some e.2,none))
 | some (id,x,_)=>((sp.fr.map fun e=>fr.get e.1,hp[id]?),(sp.fr.map fun e=>some e.2,some x))
def findS(sps:List Spec)(k:Nat):Option Spec:=match sps with
 | []=>none
 | s :: r=>bif Nat.beq s.k k then some s else findS r k
def lstC(Γ:TypeId→Option TI)(N:Nat)(hpL:List Ob)(ll:List Nat)(bx:List (Nat×List Nat))(sps:List Spec)(ops:Array Oper)(k:Nat)(fr:Fr)(hp:List Ob)(lg:List LogE)(o:Oper):Option (Fr×List LogE):=match findS sps k with
 | some sp=>match sp.ch,o.dst with
  | none,some d=>some ((d,sp.g) :: fr,lg++[sp.log fr hp])
  | _,_=>none
 | none=>(xstep Γ N hpL ll bx ops k fr o).map fun fr'=>(fr',lg)
def hstC(Γ:TypeId→Option TI)(N:Nat)(hpL:List Ob)(sps:List Spec)(ops:Array Oper)(k:Nat)(fr:Fr)(hp:List Ob)(lg:List LogE)(o:Oper):Option (Fr×List Ob×List LogE):=match findS sps k with
 | some sp=>match sp.ch,o.dst with
  | some (id,_,y),some d=>bif hp.all Ob.sole&&deadB hpL id then some ((d,sp.g) :: fr,hp.set id y,lg++[sp.log fr hp]) else none
  | _,_=>none
 | none=>(hst Γ N hpL ops fr hp o).map fun s=>(s.1,s.2,lg)
def anyC(Γ:TypeId→Option TI)(N:Nat)(hpL:List Ob)(ll hl:List Nat)(bx:List (Nat×List Nat))(sps:List Spec)(ops:Array Oper):Nat→Array Bool→Fr→List Ob→List LogE→Option (List (Fr×List Ob×List LogE))
 | 0,listed,fr,hp,lg=>match Region.ready .any ops listed with
  | []=>some [(fr,hp,lg)]
  | _ :: _=>none
 | fuel+1,listed,fr,hp,lg=>match Region.ready .any ops listed with
  | []=>some [(fr,hp,lg)]
  | i0 :: r=>match (i0 :: r).find? fun i=>!(inL hl i) with
   | some i=>match ops[i]? with
    | none=>none
    | some o=>bif Region.free .any ops listed i then match lstC Γ N hpL ll bx sps ops i fr hp lg o with
     | some s=>anyC Γ N hpL ll hl bx sps ops fuel (listed.setIfInBounds i true) s.1 hp s.2
     | none=>none
     else none
   | none=>ocat (fun i=>match ops[i]? with
     | none=>none
     | some o=>match hstC Γ N hpL sps ops i fr hp lg o with
      | some s=>anyC Γ N hpL ll hl bx sps ops fuel (listed.setIfInBounds i true) s.1 s.2.1 s.2.2
      | none=>none) (i0 :: r)
section
variable{P:Program}{Γ:TypeId→Option TI}{F N:Nat}{Q:GPost}{fr fr':Fr}{hp hp' hpL:List Ob}{ks:List Kt}{ll hl:List Nat}{bx:List (Nat×List Nat)}{sps:List Spec}
variable{ops:Array Oper}
def LogOk(lg:List LogE):Prop:=∀ e∈lg,e.1=e.2
end
end Go.Gk
