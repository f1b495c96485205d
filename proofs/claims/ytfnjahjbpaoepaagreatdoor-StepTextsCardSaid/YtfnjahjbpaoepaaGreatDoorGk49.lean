import Derived.Test.YtfnjahjbpaoepaaGreatDoorGk39
import Derived.WideKeyRuns
set_option linter.all false
namespace Go.Gk
open Go.Instr
variable{P:Program}{Γ:TypeId→Option TI}{F N:Nat}{Q:GPost}{fr fr':Fr}{hp hp':List Ob}{ks:List Kt}
variable{α:Type}{enc:α→List D}{ops:Array Oper}{rest:List Oper}{g:G}
variable{d:Tmp}{op:Op}{ty:TypeId}{pos:String}{after:Array Edge}{gd':Option (Nat×Bool)}
end Go.Gk
namespace Go.Gk
abbrev Tl(α:Type):Type:=Nat×List α
def Slt{α:Type}(te:TypeId)(sz:Nat)(enc:α→List D)(s:Tl α):D:=.rt te sz s.1 s.2.length (s.2.flatMap enc)
def eT{α:Type}(te:TypeId)(sz:Nat)(enc:α→List D)(s:Tl α):List D:=[Slt te sz enc s]
theorem RelH.bag_none{Z:Env}{hp:List Ob}{M:Mp}{w:World}(hr:RelH Z hp M w){bg:Nat}{al:List Bool}{ar:List Ar}{lt:List (Nat×Nat)}(hbag:hp[bg]?=some (.bag al ar lt)):M.l[bg]?=some none∧ObR w (ownZ Z hp M) M (.bag al ar lt) none:=by
 have hbl:bg<hp.length:=(gEs.1 hbag).1
 have e:M.l[bg]?=some (M.l[bg]'(by rw[hr.len];exact hbl)):=gGe _
 have:=hr.obj bg _ _ hbag e
 revert this
 rw[e]
 cases M.l[bg]'(by rw[hr.len];exact hbl) with
 | none=>exact fun h=>⟨rfl,h⟩
 | some _=>exact fun h=>h.elim
section
variable{P:Program}{Γ:TypeId→Option TI}{F N:Nat}{Q:GPost}{fr fr':Fr}{hp hp':List Ob}{ks:List Kt}
variable{ops:Array Oper}{rest:List Oper}{g:G}{α:Type}{enc:α→List D}
variable{d:Tmp}{op:Op}{ty:TypeId}{pos:String}{after:Array Edge}{gd:Option (Nat×Bool)}
def appT{α:Type}(al:List Bool)(s:Tl α)(m:List α):Option (Tl α×List Bool):=
 bi (apd s.2 m) fun r=>bif m.isEmpty then some (s,al) else match s.1 with
  | 0=>none
  | 1=>some ((al.length+2,r),al++[true])
  | t+2=>bif (al[t]?).getD false then some ((al.length+2,r),al.set t false++[true]) else none
abbrev fTag(l:List α):Nat:=bif l.isEmpty then 0 else 1
theorem Kmf(hΓ:TOK P Γ)(ks:List Nat)(gs:List G){t:TypeId}{i:TI}(hi:Γ t=some i)(h1:(i.zero.cells.toList.all (·.oneCell'))=true)(hle:G.LeAll (zeroX ks i) gs):OpS P N ⟨some d,.alloc t,ty,pos,after,gd⟩ fr hp (.ptr hp.length 0) (hp++[.box t gs]):=fun Z w M a hr=>by
 obtain⟨_,inf,e1,e2,e3,e4⟩:=hΓ t i hi
 obtain⟨hl,hg⟩:=hle.spec
 have hc:i.zero.cells.size=gs.length∧CellsR w (ownZ Z hp M) M i.zero.cells gs:=by
  refine⟨by rw[←hl];simp[zeroX],fun j g hj=>?_⟩
  obtain⟨g0,h0,hle0⟩:=hg j g hj
  obtain⟨c,k1,k2,k3⟩:=Kkq h1 j g0 h0
  exact⟨c,k1,k2,hle0 _ _ _ _ k3⟩
 obtain⟨r1,r2,r3⟩:=Krn (t:=t) hr.heap hc
 refine⟨.pointer (some ⟨w.heap.size,0,none⟩),_,_,?_,r1,.ptr (c:=0) ?_,r2,r3⟩
 ·simp[execOp,Instr.alloc,zeroValue,typeInfo,e1,e4,newVar,newRow]
 rw[←hr.heap.len];simp
section
variable{hpL:List Ob}{ll hl bl:List Nat}{k:Nat}{QF:Fr→List Ob→Prop}
end
end
end Go.Gk
namespace Go.Gk
def updA{α:Type}(k:Int)(j:Nat)(v a:α):α:=if k=(j:Int) then v else a
def updL{α:Type}(k:Int)(v:α):Nat→List α→List α
 | _,[]=>[]
 | j,a :: l=>updA k j v a :: updL k v (j+1) l
section
variable{P:Program}{Γ:TypeId→Option TI}{F N:Nat}{Q:GPost}{fr fr':Fr}{hp:List Ob}{ks:List Kt}
variable{α:Type}{enc:α→List D}{ops:Array Oper}{rest:List Oper}{g:G}
variable{d:Tmp}{op:Op}{ty:TypeId}{pos:String}{after:Array Edge}{gd':Option (Nat×Bool)}
def Rn(P:Program)(F N:Nat)(Q:GPost)(c:Code)(ks:List Kt):Nat→Fr→List Ob→Prop
 | 0=>fun _ _=>False
 | n+1=>fun fr hp=>St.holds P F N Q (.code c (.mid (Rn P F N Q c ks n) :: ks)) fr hp
end
def insK(n:Int)(g:G):List (Int×G)→List (Int×G)
 | []=>[(n,g)]
 | e :: r=>if n<e.1 then(n,g) :: e :: r else e :: insK n g r
theorem Kmg(n:Int)(g:G):∀ m:List (Int×G),(insK n g m).Perm (m++[(n,g)])
 | []=>.refl _
 | e :: r=>by
  unfold insK
  split
  ·exact((List.perm_append_comm (l₁:=[(n,g)]) (l₂:=e :: r)))
  exact(Kmg n g r).cons e
def pmE(k:IntKind)(m:List (Int×G)):List (Value×G):=m.map fun e=>(kI k e.1,e.2)
def unI(k:IntKind):List (Value×G)→Option (List (Int×G))
 | []=>some []
 | (.int k' n,g) :: r=>if k'=k then match unI k r with
   | some m=>some ((n,g) :: m)
   | none=>none
  else none
 | _=>none
theorem Kmh{k:IntKind}:∀ {es:List (Value×G)} {m:List (Int×G)},unI k es=some m→es=pmE k m
 | [],_,h=>by cases h;rfl
 | (v,g) :: r,m,h=>by
  cases v<;>simp only[unI,reduceCtorEq] at h
  rename_i k0 n
  split at h
  ·rename_i e
   subst e
   cases hr:unI k0 r with
   | none=>rw[hr] at h;cases h
   | some q=>
    rw[hr] at h
    cases h
    rw[Kmh hr]
    rfl
  cases h
section
variable{P:Program}{Γ:TypeId→Option TI}{F N:Nat}{Q:GPost}{fr fr':Fr}{hp hp':List Ob}{ks:List Kt}
variable{d:Tmp}{op:Op}{ty:TypeId}{pos:String}{after:Array Edge}{gd:Option (Nat×Bool)}
theorem Kmi{t:TypeId}:OpS P N ⟨some d,.makeMap t none,ty,pos,after,gd⟩ fr hp (.map hp.length) (hp++[.pm []]):=fun Z w M a hr=>by
 obtain⟨r1,r2,r3⟩:=Kld hr.heap (.pm []) (.map #[] 0) 0 (fun w' O' hst hh=>⟨#[],0,[],hh,.refl _,.nil,rfl,⟨fun i j e e' h=>by simp at h,fun i e h=>by simp at h⟩,fun j k ds h=>by simp at h⟩)
 refine⟨.map (some w.heap.size),_,_,?_,r1,.map (c:=0) ?_,r2,r3⟩
 ·simp[execOp,Instr.makeMap,newObj,Sem.run]
 rw[←hr.heap.len];simp
structure PmAt(w:World)(O:Ow)(M:Mp)(k:IntKind)(b:Nat)(m m':List (Int×G))(ms:Array MapEntry)(cl:Nat):Prop where
 perm:m'.Perm m
 apart:m'.Pairwise fun x y=>kI k x.1≠kI k y.1
 heap:w.heap[b]?=some (.map ms cl)
 size:ms.size=m'.length
 born:Born ms cl
 get:∀ (j:Nat) (x:Int×G),m'[j]?=some x→∃ e:MapEntry,ms[j]?=some e∧e.key=kI k x.1∧e.val.oneCell'=true∧VR w O M x.2 e.val
theorem Kmj{Z:Env}{M:Mp}{w:World}(hr:RelH Z hp M w){id b c:Nat}{k:IntKind}{m:List (Int×G)}(ho:hp[id]?=some (.pm (pmE k m)))(hM:M.l[id]?=some (some (b,c))):∃ m' ms cl,PmAt w (ownZ Z hp M) M k b m m' ms cl:=by
 obtain⟨ms,cl,es',h1,p1,p2,h2,h3,h4⟩:=hr.obj id _ _ ho hM
 obtain⟨m',q1,rfl⟩:=Kky _ p1 m rfl
 rw[List.pairwise_map] at p2
 exact⟨m',ms,cl,q1,p2,h1,by simpa using h2,h3,fun j x hj=>h4 j _ _ (by simp[hj])⟩
theorem PmAt.find{w:World}{O:Ow}{M:Mp}{k:IntKind}{b:Nat}{m m':List (Int×G)}{ms:Array MapEntry}{cl:Nat}(h:PmAt w O M k b m m' ms cl)(n:Int) :
  Instr.findNow (.int k) (kI k n) ms.toList 0=some ((m'.findIdx? fun e=>n==e.1).bind fun j=>(ms[j]?).map fun e=>(j,e.val)):=by
 have:=Klb (Kla k) n ms.toList m' 0 (by simpa using h.size) (fun j e x he hj=>by
  obtain⟨e',e1,e2,_⟩:=h.get j x hj
  have:e=e':=by
   have he':ms[j]?=some e:=by simpa using he
   rw[e1] at he';exact(oSi he').symm
  rw[this];exact e2)
 rw[this]
 congr 2
 funext j
 simp
theorem Kmk(hΓ:TOK P Γ){t kt et:TypeId}{i1 i2:TI}{x y z:Operand}{id:Nat}{k:IntKind}(m:List (Int×G))(n:Int){gv:G}(h1:Γ t=some i1)(h1':i1.desc=.map kt et)(h2:Γ kt=some i2)(h2':i2.desc=.int k)
  (hx:fr.ev x=some (.map id)) (ho:hp[id]?=some (.pm (pmE k m))) (hy:fr.ev y=some (.d (.v (.int k n)))) (hv:fr.ev z=some gv) (hone:gv.one=true) (hn:∀ e∈m,e.1≠n) :
  OpU P N ⟨none,.insert t x y z,ty,pos,after,gd⟩ fr hp (hp.set id (.pm (pmE k (insK n gv m)))):=fun Z w M a hr=>by
 obtain⟨u1,_⟩:=hΓ t _ h1
 rw[h1'] at u1
 obtain⟨u2,_⟩:=hΓ kt _ h2
 rw[h2'] at u2
 have hvx:=hr.ev hx
 have hvz:=hr.ev hv
 have hone':=hvz.one hone
 simp only[execOp,hr.ev_v hy]
 generalize a.eval x=vx at hvx
 generalize a.eval z=vz at hvz hone'
 cases hvx with
 | map hM=>
  rename_i b c
  obtain⟨m',ms,cl,hA⟩:=Kmj hr.heap ho hM
  have m1:=hA.heap
  have m2:=hA.size
  have m3:=hA.born
  have m4:=hA.get
  have hf:=MapKept.run_findKey (P:=P) (w:=w) u2 (hA.find n)
  have hc:=MapKept.run_checkKey (P:=P) (w:=w) u2 ((Kla k).key n) false 9999
  have hi:(m'.findIdx? fun e=>n==e.1)=none:=by
   rw[List.findIdx?_eq_none_iff]
   intro e he
   have:=hn e (hA.perm.mem_iff.1 he)
   simp only[beq_eq_false_iff_ne]
   exact fun e2=>this e2.symm
  rw[hi] at hf
  simp only[Option.bind_none] at hf
  obtain⟨r1,r2⟩:=Kle (o':=.pm (pmE k (insK n gv m))) (ob':=.map (ms.push { key:=kI k n,val:=vz,born:=cl }) (cl+1)) hr.heap ho rfl hM (fun w' hst hh=>by
   refine⟨_,_,pmE k (m'++[(n,gv)]),hh,?_,?_,by simp[m2,pmE],⟨fun i j e e' hi hj hb=>?_,fun i e hi=>?_⟩,fun j k' g' hj=>?_⟩
   ·exact((hA.perm.append_right _).trans (Kmg n gv m).symm).map _
   ·unfold pmE
    rw[List.pairwise_map,List.pairwise_append]
    refine⟨hA.apart,List.pairwise_singleton _ _,fun e he e' he'=>?_⟩
    obtain rfl:=List.mem_singleton.1 he'
    have:=hn e (hA.perm.mem_iff.1 he)
    simp only[kI]
    intro h
    exact this (by cases h;rfl)
   ·rw[Array.getElem?_push] at hi hj
    split at hi<;>split at hj
    ·omega
    ·cases hi;have:=m3.2 j e' hj;simp only at hb;omega
    ·cases hj;have:=m3.2 i e hi;simp only at hb;omega
    ·exact m3.1 i j e e' hi hj hb
   ·rw[Array.getElem?_push] at hi
    split at hi
    ·cases hi;simp
    ·have:=m3.2 i e hi;omega
   ·unfold pmE at hj
    simp only[List.map_append,List.map_cons,List.map_nil] at hj
    rcases Krk hj with⟨hl,h'⟩ | ⟨hl,h'⟩
    ·rw[gMp] at h'
     obtain⟨x,hx,he⟩:=oMs.1 h'
     simp only[Prod.mk.injEq] at he
     obtain⟨rfl,rfl⟩:=he
     obtain⟨e,e1,e2,e3,e4⟩:=m4 j x hx
     have hlt:=(aEs.1 e1).1
     exact⟨e,by rw[Array.getElem?_push_lt hlt,←Array.getElem?_eq_getElem hlt];exact e1,e2,e3,e4.step hst (fun _ _=>rfl)⟩
    ·simp only[Prod.mk.injEq] at h'
     obtain⟨rfl,rfl⟩:=h'
     refine⟨{ key:=kI k n,val:=vz,born:=cl },?_,rfl,hone',hvz.step hst (fun _ _=>rfl)⟩
     rw[hl,List.length_map,←m2]
     simp) rfl
  refine⟨_,M,?_,r1,r2,⟨Nat.le_of_eq hr.heap.len.symm,fun _ _=>rfl⟩⟩
  simp only[kI] at hf hc
  simp[Instr.mapUpdate,run_underlying u1,MapKept.run_getObj_map m1,hc,hf,MapKept.run_setObj_map _ m1,kI]
theorem Kml(hΓ:TOK P Γ){t kt et:TypeId}{i1 i2:TI}{x y:Operand}{id:Nat}{k:IntKind}(m:List (Int×G))(n:Int){gv:G}(h1:Γ t=some i1)(h1':i1.desc=.map kt et)(h2:Γ kt=some i2)(h2':i2.desc=.int k)
  (hx:fr.ev x=some (.map id)) (ho:hp[id]?=some (.pm (pmE k m))) (hy:fr.ev y=some (.d (.v (.int k n)))) (hm:m.find? (fun e=>n==e.1)=some (n,gv)):OpP P N ⟨some d,.lookup t x y false,ty,pos,after,gd⟩ fr hp gv:=fun Z w M a hr=>by
 obtain⟨u1,_⟩:=hΓ t _ h1
 rw[h1'] at u1
 obtain⟨u2,_⟩:=hΓ kt _ h2
 rw[h2'] at u2
 have hvx:=hr.ev hx
 simp only[execOp,hr.ev_v hy]
 generalize a.eval x=vx at hvx
 cases hvx with
 | map hM=>
  obtain⟨m',ms,cl,hA⟩:=Kmj hr.heap ho hM
  have hf:=MapKept.run_findKey (P:=P) (w:=w) u2 (hA.find n)
  have hc:=MapKept.run_checkKey (P:=P) (w:=w) u2 ((Kla k).key n) ms.isEmpty 9999
  have hmem:(n,gv)∈m':=hA.perm.mem_iff.2 (List.mem_of_find?_eq_some hm)
  cases hi:m'.findIdx? fun e=>n==e.1 with
  | none=>
   have:=List.findIdx?_eq_none_iff.1 hi _ hmem
   simp at this
  | some j=>
   obtain⟨hj,hk,_⟩:=lFi.1 hi
   have hjx:m'[j]=(n,gv):=by
    obtain⟨q,hq,e⟩:=List.getElem_of_mem hmem
    have hap:=List.pairwise_iff_getElem.1 hA.apart
    have hn1:(m'[j]).1=n:=by simpa using (beq_iff_eq.1 hk).symm
    have hn2:(m'[q]).1=n:=by rw[e]
    rcases Nat.lt_trichotomy j q with hlt | rfl | hlt
    ·exact absurd (by rw[hn1,hn2]) (hap j q hj hq hlt)
    ·exact e
    ·exact absurd (by rw[hn1,hn2]) (hap q j hq hj hlt)
   obtain⟨e,f1,f2,f3,f4⟩:=hA.get j _ (gGe hj)
   rw[hi] at hf
   simp only[Option.bind_some,f1,Option.map_some] at hf
   rw[hjx] at f4
   refine⟨e.val,?_,f4⟩
   simp only[kI] at hf hc
   simp[Instr.lookup,run_underlying u1,MapKept.run_getObj_map hA.heap,hc,hf]
end
end Go.Gk
namespace Go.Gk
def pf(ρ:List Nat)(i:Nat):Nat:=ρ.getD i i
def prmB(ρ σ:List Nat)(n0 n:Nat):Bool:=(List.range n).all (fun i=>Nat.blt (pf ρ i) n&&Nat.blt (pf σ i) n&&Nat.beq (pf σ (pf ρ i)) i&&Nat.beq (pf ρ (pf σ i)) i)&&(List.range n0).all fun i=>Nat.beq (pf ρ i) i
def prmObs(ρ σ:List Nat)(hp:List Ob):List Ob:=(List.range hp.length).map fun j=>(hp.getD (pf σ j) .dead).ren (pf ρ)
theorem Kmm{ρ σ:List Nat}{hp:List Ob}{j:Nat}{o:Ob}(h:(prmObs ρ σ hp)[j]?=some o)(hb:∀ i,i<hp.length→pf σ i<hp.length):j<hp.length∧∃ o0,hp[pf σ j]?=some o0∧o=o0.ren (pf ρ):=by
 unfold prmObs at h
 rw[gMp] at h
 obtain⟨q,hq,rfl⟩:=oMs.1 h
 have hj:j<hp.length:=by have:=(gEs.1 hq).1;simpa using this
 rw[List.getElem?_range hj] at hq
 cases hq
 refine⟨hj,hp[pf σ j]'(hb j hj),gGe _,?_⟩
 rw[List.getD_eq_getElem?_getD,gGe (hb j hj)]
 rfl
theorem Kmn{Z:Env}{hp:List Ob}{M:Mp}{w:World}(ρ σ:List Nat){n0:Nat}(hok:prmB ρ σ n0 hp.length=true)(hr:RelH Z hp M w) :
  ∃ M2,RelH Z (prmObs ρ σ hp) M2 w∧own (prmObs ρ σ hp) M2=own hp M∧(∀ i,i<M.l.length→M2.l[pf ρ i]?=M.l[i]?)∧M2.l.length=M.l.length∧M2.h=M.h∧∀ i,i<n0→pf ρ i=i:=by
 simp only[prmB,Bool.and_eq_true,List.all_eq_true,List.mem_range] at hok
 obtain⟨hok,h0⟩:=hok
 have lt1:∀ i,i<hp.length→pf ρ i<hp.length:=fun i hi=>nblt.1 (hok i hi).1.1.1
 have lt2:∀ i,i<hp.length→pf σ i<hp.length:=fun i hi=>nblt.1 (hok i hi).1.1.2
 have iv1:∀ i,i<hp.length→pf σ (pf ρ i)=i:=fun i hi=>nEq (hok i hi).1.2
 have iv2:∀ i,i<hp.length→pf ρ (pf σ i)=i:=fun i hi=>nEq (hok i hi).2
 have len:M.l.length=hp.length:=hr.len
 let M2:Mp:=⟨(List.range hp.length).map fun j=>M.l.getD (pf σ j) none,M.h⟩
 have hM2:∀ j,j<hp.length→M2.l[j]?=M.l[pf σ j]?:=fun j hj=>by
  show((List.range hp.length).map fun j=>M.l.getD (pf σ j) none)[j]?=_
  rw[gMp,List.getElem?_range hj]
  have h:=lt2 j hj
  rw[←len] at h
  simp[List.getD_eq_getElem?_getD,List.getElem?_eq_getElem h]
 have hM:∀ i,i<M.l.length→M2.l[pf ρ i]?=M.l[i]?:=fun i hi=>by
  rw[len] at hi
  rw[hM2 _ (lt1 i hi),iv1 i hi]
 have lv:∀ o:Ob,(o.ren (pf ρ)).live=o.live:=fun o=>by cases o<;>rfl
 have bg:∀ (o:Ob) al ar lt,o.ren (pf ρ)=.bag al ar lt→∃ lt0,o=.bag al ar lt0∧lt=Lt.ren (pf ρ) lt0:=fun o al ar lt h=>by cases o<;>first | (cases h;exact⟨_,rfl,rfl⟩) | cases h
 have get:=fun {j:Nat} {o:Ob} (h:(prmObs ρ σ hp)[j]?=some o)=>Kmm h lt2
 have mk:∀ (i:Nat) (o:Ob),hp[i]?=some o→(prmObs ρ σ hp)[pf ρ i]?=some (o.ren (pf ρ)):=fun i o h=>by
  have hi:=(gEs.1 h).1
  unfold prmObs
  rw[gMp,List.getElem?_range (lt1 i hi)]
  simp only[Option.map_some]
  rw[iv1 i hi,List.getD_eq_getElem?_getD,h]
  rfl
 have hob:∀ b,obOwn (prmObs ρ σ hp) M2 b ↔ obOwn hp M b:=fun b=>by
  constructor
  ·rintro⟨j,o,c,h1,h2,h3⟩
   obtain⟨hj,o0,h4,rfl⟩:=get h1
   rw[hM2 j hj] at h3
   exact⟨_,o0,c,h4,by rw[lv] at h2;exact h2,h3⟩
  ·rintro⟨i,o,c,h1,h2,h3⟩
   exact⟨pf ρ i,_,c,mk i o h1,by rw[lv];exact h2,(hM i (Mp.lt h3)).trans h3⟩
 have hbag:hasBag (prmObs ρ σ hp) ↔ hasBag hp:=by
  constructor
  ·rintro⟨j,al,ar,lt,h⟩
   obtain⟨_,o0,h4,h5⟩:=get h
   obtain⟨lt0,e,_⟩:=bg o0 al ar lt h5.symm
   exact⟨_,al,ar,lt0,by rw[h4,e]⟩
  ·rintro⟨i,al,ar,lt,h⟩
   exact⟨pf ρ i,al,ar,_,mk i _ h⟩
 have hown:own (prmObs ρ σ hp) M2=own hp M:=Kpd (fun b=>or_congr (hob b) (and_congr hbag Iff.rfl)) rfl hbag
 have hownZ:ownZ Z (prmObs ρ σ hp) M2=ownZ Z hp M:=Kpi (fun b=>by rw[hown]) rfl
 refine⟨M2,⟨by simp[M2,prmObs],fun j o m h1 h2=>?_,fun b hb=>?_,hr.old,hr.amb,fun i j oi oj b c c' hi hj li lj mi mj=>?_,⟨fun x hx=>?_,fun i j al al' ar ar' lt lt' hi hj=>?_,fun i al ar lt hi t x hx h=>?_,hr.bags.hds⟩⟩,hown,hM,by simp[M2,len],rfl,fun i hi=>nEq (h0 i hi)⟩
 ·obtain⟨hj,o0,h4,rfl⟩:=get h1
  rw[hM2 j hj] at h2
  rw[hownZ]
  exact(hr.obj _ o0 m h4 h2).rens hM rfl
 ·rw[hown] at hb;exact hr.apart b hb
 ·obtain⟨hi',o1,h4,rfl⟩:=get hi
  obtain⟨hj',o2,h5,rfl⟩:=get hj
  rw[hM2 i hi'] at mi
  rw[hM2 j hj'] at mj
  rw[lv] at li lj
  have:=hr.inj _ _ o1 o2 b c c' h4 h5 li lj mi mj
  rw[←iv2 i hi',←iv2 j hj',this]
 ·obtain⟨h1,h2⟩:=hr.bags.tgs x hx
  exact⟨h1,fun hz h=>h2 hz ((hob _).1 h)⟩
 ·obtain⟨hi',o1,h4,e1⟩:=get hi
  obtain⟨hj',o2,h5,e2⟩:=get hj
  obtain⟨lt0,k1,_⟩:=bg o1 al ar lt e1.symm
  obtain⟨lt1,k2,_⟩:=bg o2 al' ar' lt' e2.symm
  have:=hr.bags.one _ _ al al' ar ar' lt0 lt1 (by rw[h4,k1]) (by rw[h5,k2])
  rw[←iv2 i hi',←iv2 j hj',this]
 ·obtain⟨hi',o1,h4,e1⟩:=get hi
  obtain⟨lt0,k1,k2⟩:=bg o1 al ar lt e1.symm
  obtain⟨id,h5⟩:=hr.bags.lnd _ al ar lt0 (by rw[h4,k1]) t x hx ((hob _).1 h)
  exact⟨_,by rw[k2];exact Lt.mem_ren.2 ⟨id,h5,rfl⟩⟩
def ocat{α:Type}(f:Nat→Option (List α)):List Nat→Option (List α)
 | []=>some []
 | i :: r=>match f i with
  | some a=>match ocat f r with
   | some b=>some (a++b)
   | none=>none
  | none=>none
theorem Kmo{α:Type}{f:Nat→Option (List α)}:∀ {r:List Nat} {l:List α},ocat f r=some l→∀ i∈r,∃ a,f i=some a∧∀ x∈a,x∈l
 | [],l,h,i,hi=>by cases hi
 | j :: r,l,h,i,hi=>by
  unfold ocat at h
  cases hf:f j with
  | none=>rw[hf] at h;cases h
  | some a=>
   rw[hf] at h
   cases hr:ocat f r with
   | none=>rw[hr] at h;cases h
   | some b=>
    rw[hr] at h
    cases h
    rcases List.mem_cons.1 hi with rfl | hi
    ·exact⟨a,hf,fun x hx=>List.mem_append_left _ hx⟩
    obtain⟨c,h1,h2⟩:=Kmo hr i hi
    exact⟨c,h1,fun x hx=>List.mem_append_right _ (h2 x hx)⟩
def bxOf(bx:List (Nat×List Nat))(k:Nat):List Nat:=match bx with
 | []=>[]
 | e :: r=>bif Nat.beq e.1 k then e.2 else bxOf r k
def bldSt(Γ:TypeId→Option TI)(fr:Fr)(xs:List Nat):Op→Option G
 | .build t parts=>match Γ t with
  | some ⟨.struct fs,a,b,z⟩=>bif (fs.toList.all fun f=>(Γ f.type).isSome)&&(z.cells.toList.all (·.oneCell')) then
    (evParts fr parts.toList).bind fun pg=>(fillG (placesG Γ fs) (zeroX xs ⟨.struct fs,a,b,z⟩) pg).map .agg
   else none
  | _=>none
 | _=>none
def xstep(Γ:TypeId→Option TI)(N:Nat)(hpL:List Ob)(ll:List Nat)(bx:List (Nat×List Nat))(full:Array Oper)(k:Nat)(fr:Fr)(o:Oper):Option Fr:=match o with
 | ⟨some d,.build t parts,ty,pos,after,none⟩=>bif Nat.blt d N then(bldSt Γ (fr.only (Oper.looksAt full ⟨some d,.build t parts,ty,pos,after,none⟩)) (bxOf bx k) (.build t parts)).map fun g=>(d,g) :: fr else none
 | _=>estep Γ N hpL ll [] full k fr o
def deadB(hpL:List Ob)(id:Nat):Bool:=match hpL[id]? with
 | some o=>!o.live
 | none=>true
def hst(Γ:TypeId→Option TI)(N:Nat)(hpL:List Ob)(full:Array Oper)(fr:Fr)(hp:List Ob):Oper→Option (Fr×List Ob)
 | ⟨some d,.box t x,ty,pos,after,none⟩=>bif Nat.blt d N then((fr.only (Oper.looksAt full ⟨some d,.box t x,ty,pos,after,none⟩)).ev x).bind fun g=>(cellsG g).bind fun gs=>bif gs.all G.one then some ((d,.ptr hp.length 0) :: fr,hp++[.box t gs]) else none else none
 | ⟨some d,.buildSlice t len parts,ty,pos,after,none⟩=>match Γ t with
  | some ⟨.slice e,_,_,_⟩=>match Γ e with
   | some i2=>bif Nat.blt d N&&(i2.zero.cells.toList.all (·.oneCell'))&&Nat.blt 0 i2.zero.cells.size&&Nat.ble (len * i2.size) 16777216&&Nat.ble len 16777216 then
     (evParts (fr.only (Oper.looksAt full ⟨some d,.buildSlice t len parts,ty,pos,after,none⟩)) parts.toList).bind fun pg=>(fillG (fun i=>some (i * i2.size,i2.size)) (zerosG i2 len) pg).bind fun gs=>(toDs gs).bind fun ds=>some ((d,.sl hp.length len) :: fr,hp++[.row e i2.size len ds])
    else none
   | none=>none
  | _=>none
 | ⟨none,.store t x y,ty,pos,after,none⟩=>match Γ t with
  | some i=>match (fr.only (Oper.looksAt full ⟨none,.store t x y,ty,pos,after,none⟩)).ev x with
   | some (.ptr id off)=>match hp[id]? with
    | some (.box tb gs)=>((fr.only (Oper.looksAt full ⟨none,.store t x y,ty,pos,after,none⟩)).ev y).bind fun g=>(cellsG g).bind fun new=>
      bif new.all G.one&&Nat.beq new.length i.size&&Nat.ble (off+new.length) gs.length&&deadB hpL id then some (fr,hp.set id (.box tb (setAt gs off new))) else none
    | _=>none
   | _=>none
  | none=>none
 | ⟨some d,.makeMap t none,ty,pos,after,none⟩=>match Γ t with
  | some ⟨.map kt et,_,_,_⟩=>match Γ et with
   | some ⟨.pointer _,_,_,_⟩=>bif Nat.blt d N then some ((d,.map hp.length) :: fr,hp++[.pm []]) else none
   | _=>none
  | _=>none
 | ⟨none,.insert t x y z,ty,pos,after,none⟩=>match Γ t with
  | some ⟨.map kt et,_,_,_⟩=>match Γ kt with
   | some ⟨.int k,_,_,_⟩=>match (fr.only (Oper.looksAt full ⟨none,.insert t x y z,ty,pos,after,none⟩)).ev x with
    | some (.map id)=>match hp[id]? with
     | some (.pm es)=>match (fr.only (Oper.looksAt full ⟨none,.insert t x y z,ty,pos,after,none⟩)).ev y with
      | some (.d (.v (.int k' n)))=>((fr.only (Oper.looksAt full ⟨none,.insert t x y z,ty,pos,after,none⟩)).ev z).bind fun gv=>(unI k es).bind fun m=>
        bif decide (k'=k)&&gv.one&&(m.all fun e=>!(e.1==n))&&deadB hpL id then some (fr,hp.set id (.pm (pmE k (insK n gv m)))) else none
      | _=>none
     | _=>none
    | _=>none
   | _=>none
  | _=>none
 | ⟨some d,.lookup t x y false,ty,pos,after,none⟩=>match Γ t with
  | some ⟨.map kt et,_,_,_⟩=>match Γ kt with
   | some ⟨.int k,_,_,_⟩=>match (fr.only (Oper.looksAt full ⟨some d,.lookup t x y false,ty,pos,after,none⟩)).ev x with
    | some (.map id)=>match hp[id]? with
     | some (.pm es)=>match (fr.only (Oper.looksAt full ⟨some d,.lookup t x y false,ty,pos,after,none⟩)).ev y with
      | some (.d (.v (.int k' n)))=>(unI k es).bind fun m=>match m.find? (fun e=>n==e.1) with
       | some (n',gv)=>bif Nat.blt d N&&decide (k'=k)&&decide (n'=n) then some ((d,gv) :: fr,hp) else none
       | none=>none
      | _=>none
     | _=>none
    | _=>none
   | _=>none
  | _=>none
 | _=>none
def anyR(Γ:TypeId→Option TI)(N:Nat)(hpL:List Ob)(ll hl:List Nat)(bx:List (Nat×List Nat))(ops:Array Oper):Nat→Array Bool→Fr→List Ob→Option (List (Fr×List Ob))
 | 0,listed,fr,hp=>match Region.ready .any ops listed with
  | []=>some [(fr,hp)]
  | _ :: _=>none
 | fuel+1,listed,fr,hp=>match Region.ready .any ops listed with
  | []=>some [(fr,hp)]
  | i0 :: r=>match (i0 :: r).find? fun i=>!(inL hl i) with
   | some i=>match ops[i]? with
    | none=>none
    | some o=>bif Region.free .any ops listed i then match xstep Γ N hpL ll bx ops i fr o with
     | some fr'=>anyR Γ N hpL ll hl bx ops fuel (listed.setIfInBounds i true) fr' hp
     | none=>none
     else none
   | none=>ocat (fun i=>match ops[i]? with
     | none=>none
     | some o=>match hst Γ N hpL ops fr hp o with
      | some s=>anyR Γ N hpL ll hl bx ops fuel (listed.setIfInBounds i true) s.1 s.2
      | none=>none) (i0 :: r)
section
variable{P:Program}{Γ:TypeId→Option TI}{F N:Nat}{Q:GPost}{fr fr':Fr}{hp hp' hpL:List Ob}{ks:List Kt}{ll hl:List Nat}{bx:List (Nat×List Nat)}
variable{ops:Array Oper}
theorem Kmp(hΓ:TOK P Γ){d:Tmp}{t:TypeId}{parts:Array (Nat×Operand)}{ty:TypeId}{pos:String}{after:Array Edge}{gd':Option (Nat×Bool)}{g:G}{xs:List Nat}(h:bldSt Γ fr xs (.build t parts)=some g):OpP P N ⟨some d,.build t parts,ty,pos,after,gd'⟩ fr hp g:=by
 simp only[bldSt] at h
 split at h
 ·rename_i fs a b z h1
  cases hc:((fs.toList.all fun f=>(Γ f.type).isSome)&&(z.cells.toList.all (·.oneCell'))) with
  | false=>rw[hc] at h;cases h
  | true=>
   rw[hc] at h
   simp only[Bool.and_eq_true] at hc
   simp only[cond_true] at h
   obtain⟨pg,hp1,h2⟩:=Option.bind_eq_some_iff.1 h
   obtain⟨gs,hf,rfl⟩:=oMs.1 h2
   exact Kkr hΓ xs h1 rfl hc.1 hc.2 hp1 hf
 cases h
theorem Kmq{k:Nat}:∀ j,¬ NewOp (inL []) k j:=fun j ⟨_,h⟩=>by simp[inL] at h
theorem Kmr(hΓ:TOK P Γ){k:Nat}{o:Oper}{hp:List Ob}(h:xstep Γ N hpL ll bx ops k fr o=some fr'):∃ x g,YE P N hpL (inL ll) (inL hl) (inL []) ops k o fr.get hp x g hp∧fr'.get=FF.put fr.get x g:=by
 unfold xstep at h
 split at h
 ·rename_i d t parts ty pos after
  cases hd:Nat.blt d N with
  | false=>rw[hd] at h;cases h
  | true=>
   rw[hd] at h
   obtain⟨g,hg,rfl⟩:=oMs.1 h
   refine⟨some d,g,.inl ⟨⟨fun d' h=>by cases h;exact nblt.1 hd,.inr ⟨.inl rfl,_,fun t g' h=>Fr.only_get h,fun hp _=>Kjp (qt_p (Kmp hΓ hg))⟩⟩,rfl,rfl,Kmq⟩,?_⟩
   rw[Fr.get_cons]
   rfl
 have key:GE P N hpL ll hl [] ops (fun fr'' hp''=>fr''.get=fr'.get∧hp''=hp) k [o] fr hp:=Kjv hΓ h (Kjn ⟨rfl,rfl⟩)
 obtain⟨x,g,hp',h1,fr'',h2,h3,rfl⟩:=key
 exact⟨x,g,h1,by rw[←h3,h2]⟩
theorem Kms{o:Ob}(h:Stays hpL hp):Stays hpL (hp++[o]):=fun i q h1 h2=>by
 have:=h i q h1 h2
 rw[gAl (gEs.1 this).1]
 exact this
theorem Kmt{o:Ob}{id:Nat}(hd:deadB hpL id=true)(h:Stays hpL hp):Stays hpL (hp.set id o):=fun i q h1 h2=>by
 have hne:id≠i:=fun e=>by
  subst e
  unfold deadB at hd
  rw[h1] at hd
  simp[h2] at hd
 rw[gSn hne]
 exact h i q h1 h2
theorem Kmu(hΓ:TOK P Γ){d:Tmp}{ty:TypeId}{pos:String}{after:Array Edge}{gd':Option (Nat×Bool)}{t e:TypeId}{len:Nat}{i1 i2:TI}{parts:Array (Nat×Operand)}{pg:List (Nat×G)}{gs:List G}{ds:List D}(h1:Γ t=some i1)(h1':i1.desc=.slice e)(h2:Γ e=some i2)
  (hz:(i2.zero.cells.toList.all (·.oneCell'))=true) (hz':Nat.blt 0 i2.zero.cells.size=true) (hlen:Nat.ble (len * i2.size) 16777216=true) (hlen':Nat.ble len 16777216=true) (hp':evParts fr parts.toList=some pg) (hf:fillG (fun i=>some (i * i2.size,i2.size)) (zerosG i2 len) pg=some gs) (hds:toDs gs=some ds) :
  OpS P N ⟨some d,.buildSlice t len parts,ty,pos,after,gd'⟩ fr hp (.sl hp.length len) (hp++[.row e i2.size len ds]):=fun Z w M a hr=>by
 obtain⟨cs,r1,r2,r3,r4⟩:=Kem hΓ hr h1 h1' h2 hz hz' hlen hp' hf
 have hgs:=Kei hds
 have hlen'':len≤maxLen:=by have:=nBe hlen';simp only[maxLen];omega
 have hdl:ds.length=len * i2.size:=by rw[←r3,hgs];simp
 obtain⟨f1,f2,f3⟩:=Krl hr.heap (.row e i2.size len ds) cs e len fun w' O' hst hh=>⟨hdl,cs,hh,by rw[r2,r3],Nat.le_refl _,hlen'',fun j dd hj=>by
  obtain⟨v,e1,e2,e3⟩:=r4 j (.d dd) (by rw[hgs,gMp,hj];rfl)
  cases e3 with
  | d h=>exact⟨v,e1,h.step hst⟩⟩
 refine⟨_,_,_,by simp[execOp,r1];rfl,f1,.sl (c:=len) ?_ (Nat.le_refl _) hlen'',f2,f3⟩
 rw[←hr.heap.len];simp
theorem Kmv(hΓ:TOK P Γ){k:Nat}{o:Oper}{hp:List Ob}{s:Fr×List Ob}(hk:inL hl k=true)(h:hst Γ N hpL ops fr hp o=some s):(∃ x g,YE P N hpL (inL ll) (inL hl) (inL []) ops k o fr.get hp x g s.2∧s.1.get=FF.put fr.get x g)∧(Stays hpL hp→Stays hpL s.2):=by
 unfold hst at h
 split at h
 ·rename_i d t y ty pos after
  cases hd:Nat.blt d N with
  | false=>rw[hd] at h;cases h
  | true=>
   rw[hd] at h
   simp only[cond_true] at h
   obtain⟨g,hg,h2⟩:=Option.bind_eq_some_iff.1 h
   obtain⟨gs,hgs,h3⟩:=Option.bind_eq_some_iff.1 h2
   cases ho:gs.all G.one with
   | false=>rw[ho] at h3;cases h3
   | true=>
    rw[ho] at h3
    cases h3
    refine⟨⟨some d,.ptr hp.length 0,.inr (.inr (.inl ⟨hk,⟨fun d' h=>by cases h;exact nblt.1 hd,.inl rfl,by simp,_,fun t g' h=>Fr.only_get h,Kjw (Kkb hg hgs ho)⟩,rfl,Kmq,fun _=>Kms⟩)),?_⟩,Kms⟩
    rw[Fr.get_cons]
    rfl
 ·rename_i d t len parts ty pos after
  split at h
  ·rename_i e a b z h1
   split at h
   ·rename_i i2 h2
    cases hc:(Nat.blt d N&&(i2.zero.cells.toList.all (·.oneCell'))&&Nat.blt 0 i2.zero.cells.size&&Nat.ble (len * i2.size) 16777216&&Nat.ble len 16777216) with
    | false=>rw[hc] at h;cases h
    | true=>
     rw[hc] at h
     simp only[Bool.and_eq_true] at hc
     simp only[cond_true] at h
     obtain⟨⟨⟨⟨c1,c2⟩,c3⟩,c4⟩,c5⟩:=hc
     obtain⟨pg,hp1,h3⟩:=Option.bind_eq_some_iff.1 h
     obtain⟨gs,hf,h4⟩:=Option.bind_eq_some_iff.1 h3
     obtain⟨ds,hds,h5⟩:=Option.bind_eq_some_iff.1 h4
     cases h5
     refine⟨⟨some d,.sl hp.length len,.inr (.inr (.inl ⟨hk,⟨fun d' h=>by cases h;exact nblt.1 c1,.inl rfl,by simp,_,fun t g' h=>Fr.only_get h,Kjw (Kmu hΓ h1 rfl h2 c2 c3 c4 c5 hp1 hf hds)⟩,rfl,Kmq,fun _=>Kms⟩)),?_⟩,Kms⟩
     rw[Fr.get_cons]
     rfl
   cases h
  cases h
 ·rename_i t x y ty pos after
  split at h
  ·rename_i i h1
   split at h
   ·rename_i id off hx
    split at h
    ·rename_i tb gs ho
     obtain⟨g,hy,h2⟩:=Option.bind_eq_some_iff.1 h
     obtain⟨new,hg,h3⟩:=Option.bind_eq_some_iff.1 h2
     cases hc:(new.all G.one&&Nat.beq new.length i.size&&Nat.ble (off+new.length) gs.length&&deadB hpL id) with
     | false=>rw[hc] at h3;cases h3
     | true=>
      rw[hc] at h3
      simp only[Bool.and_eq_true] at hc
      cases h3
      obtain⟨⟨⟨c1,c2⟩,c3⟩,c4⟩:=hc
      exact⟨⟨none,.junk,.inr (.inr (.inl ⟨hk,⟨(fun d' h=>by cases h),.inl rfl,by simp,_,fun t g' h=>Fr.only_get h,Kjx (Kkd hΓ h1 hx ho hy hg c1 c2 c3)⟩,rfl,Kmq,fun _=>Kmt c4⟩)),rfl⟩,Kmt c4⟩
    cases h
   cases h
  cases h
 ·rename_i d t ty pos after
  split at h
  ·split at h
   ·cases hd:Nat.blt d N with
    | false=>rw[hd] at h;cases h
    | true=>
     rw[hd] at h
     cases h
     refine⟨⟨some d,.map hp.length,.inr (.inr (.inl ⟨hk,⟨fun d' h=>by cases h;exact nblt.1 hd,.inl rfl,by simp,[],fun t g' h=>(by cases h),Kjw Kmi⟩,rfl,Kmq,fun _=>Kms⟩)),?_⟩,Kms⟩
     rw[Fr.get_cons]
     rfl
   cases h
  cases h
 ·rename_i t x y z ty pos after
  split at h
  ·rename_i kt et _ _ _ h1
   split at h
   ·rename_i k _ _ _ h2
    split at h
    ·rename_i id hx
     split at h
     ·rename_i es ho
      split at h
      ·rename_i k' n hy
       obtain⟨gv,hv,h3⟩:=Option.bind_eq_some_iff.1 h
       obtain⟨m,hm,h4⟩:=Option.bind_eq_some_iff.1 h3
       cases hc:(decide (k'=k)&&gv.one&&(m.all fun e=>!(e.1==n))&&deadB hpL id) with
       | false=>rw[hc] at h4;cases h4
       | true=>
        rw[hc] at h4
        simp only[Bool.and_eq_true,decide_eq_true_eq] at hc
        cases h4
        obtain⟨⟨⟨rfl,c2⟩,c3⟩,c4⟩:=hc
        have hes:=Kmh hm
        subst hes
        exact⟨⟨none,.junk,.inr (.inr (.inl ⟨hk,⟨(fun d' h=>by cases h),.inl rfl,by simp,_,fun t g' h=>Fr.only_get h,Kjx (Kmk hΓ m n h1 rfl h2 rfl hx ho hy hv c2 (fun e he=>by
         have:=lAe.1 c3 e he
         simpa using this))⟩,rfl,Kmq,fun _=>Kmt c4⟩)),rfl⟩,Kmt c4⟩
      cases h
     cases h
    cases h
   cases h
  cases h
 ·rename_i d t x y ty pos after
  split at h
  ·rename_i kt et _ _ _ h1
   split at h
   ·rename_i k _ _ _ h2
    split at h
    ·rename_i id hx
     split at h
     ·rename_i es ho
      split at h
      ·rename_i k' n hy
       obtain⟨m,hm,h4⟩:=Option.bind_eq_some_iff.1 h
       split at h4
       ·rename_i n' gv hfind
        cases hc:(Nat.blt d N&&decide (k'=k)&&decide (n'=n)) with
        | false=>rw[hc] at h4;cases h4
        | true=>
         rw[hc] at h4
         simp only[Bool.and_eq_true,decide_eq_true_eq] at hc
         cases h4
         obtain⟨⟨c1,rfl⟩,rfl⟩:=hc
         have hes:=Kmh hm
         subst hes
         refine⟨⟨some d,gv,.inr (.inr (.inl ⟨hk,⟨fun d' h=>by cases h;exact nblt.1 c1,.inl rfl,by simp,_,fun t g' h=>Fr.only_get h,Kjp (qt_p (Kml hΓ m n' h1 rfl h2 rfl hx ho hy hfind))⟩,rfl,Kmq,fun _ h=>h⟩)),?_⟩,fun h=>h⟩
         rw[Fr.get_cons]
         rfl
       cases h4
      cases h
     cases h
    cases h
   cases h
  cases h
 cases h
theorem Kmw:Ord0 .any ops (inL ll) (inL hl) (inL []) where
 lb i j _ h:=by simp[inL] at h
 nb i j h:=absurd h (Kmq j)
 nd i j _ _ h:=absurd h (Kmq j)
 n1 i j _ h:=absurd h (Kmq j)
 n2 i _ j h:=absurd h (Kmq j)
def LeafOk(n0:Nat)(s:Fr×List Ob)(p:List Nat×List Nat)(fr0:Fr)(hp0:List Ob):Prop:=
 prmB p.1 p.2 n0 s.2.length=true∧prmObs p.1 p.2 s.2=hp0∧fr0.map (fun e=>(Fr.get s.1 e.1).map (G.ren (pf p.1)))=fr0.map fun e=>some e.2
def leafN(n0:Nat)(T:List Nat)(s:Fr×List Ob)(p:List Nat×List Nat):Bool×List (Option G)×List Ob:=(prmB p.1 p.2 n0 s.2.length,T.map fun t=>(Fr.get s.1 t).map (G.ren (pf p.1)),prmObs p.1 p.2 s.2)
def leavesN(n0:Nat)(T:List Nat):List (Fr×List Ob)→List (List Nat×List Nat)→List (Bool×List (Option G)×List Ob)
 | [],_=>[]
 | s :: ss,p :: ps=>leafN n0 T s p :: leavesN n0 T ss ps
 | _ :: _,[]=>[(false,[],[])]
theorem Kmx{n0:Nat}{fr0:Fr}{hp0:List Ob}:∀ {ss:List (Fr×List Ob)} {ps:List (List Nat×List Nat)},(∀ x∈leavesN n0 (fr0.map (·.1)) ss ps,x=(true,fr0.map (fun e=>some e.2),hp0))→∀ s∈ss,∃ p,LeafOk n0 s p fr0 hp0
 | [],_,_,s,hs=>by cases hs
 | s0 :: ss,p :: ps,h,s,hs=>by
  rcases List.mem_cons.1 hs with rfl | hs
  ·have:=h _ mCs
   unfold leafN at this
   have h1:=Prod.mk.inj this
   have h2:=Prod.mk.inj h1.2
   refine⟨p,h1.1,h2.2,?_⟩
   rw[←h2.1,List.map_map]
   rfl
  exact Kmx (fun x hx=>h x (mCo _ hx)) s hs
 | _ :: _,[],h,_,_=>by
  have:=h _ mCs
  cases this
theorem Kmy{f:Nat→Option G}:∀ {fr0:Fr} {t:Nat} {g:G},fr0.map (fun e=>f e.1)=fr0.map (fun e=>some e.2)→fr0.get t=some g→f t=some g
 | [],t,g,_,h=>by cases h
 | (t0,g0) :: r,t,g,hm,h=>by
  simp only[List.map_cons,List.cons.injEq] at hm
  simp only[Fr.get] at h
  cases hb:Nat.beq t0 t with
  | true=>
   rw[hb] at h
   cases h
   obtain rfl:=nEq hb
   exact hm.1
  | false=>rw[hb] at h;exact Kmy hm.2 h
theorem Kmz{Z:Env}{M:Mp}{w:World}{id:Nat}{t:TypeId}{gs gs':List G}(hr:RelH Z hp M w)(ho:hp[id]?=some (.box t gs))(hl:gs'.length=gs.length)
  (hc:∀ (j:Nat) (g':G),gs'[j]?=some g'→∃ g,gs[j]?=some g∧∀ v,VR w (ownZ Z hp M) M g v→VR w (ownZ Z hp M) M g' v):RelH Z (hp.set id (.box t gs')) M w∧own (hp.set id (.box t gs')) M=own hp M:=by
 have hid:id<hp.length:=(gEs.1 ho).1
 have get:∀ (i:Nat) (o:Ob),(hp.set id (.box t gs'))[i]?=some o→(i=id∧o=.box t gs')∨(i≠id∧hp[i]?=some o):=fun i o h=>by
  by_cases hi:i=id
  ·subst hi;rw[gSs hid] at h;cases h;exact .inl ⟨rfl,rfl⟩
  ·rw[gSn (Ne.symm hi)] at h;exact .inr ⟨hi,h⟩
 have hob:∀ b,obOwn (hp.set id (.box t gs')) M b ↔ obOwn hp M b:=fun b=>by
  constructor
  ·rintro⟨i,o,c,h1,h2,h3⟩
   rcases get i o h1 with⟨rfl,rfl⟩ | ⟨_,h⟩
   ·exact⟨_,_,c,ho,rfl,h3⟩
   ·exact⟨i,o,c,h,h2,h3⟩
  ·rintro⟨i,o,c,h1,h2,h3⟩
   by_cases hi:i=id
   ·subst hi;exact⟨i,_,c,gSs hid,rfl,h3⟩
   ·exact⟨i,o,c,by rw[gSn (Ne.symm hi)];exact h1,h2,h3⟩
 have hbag:hasBag (hp.set id (.box t gs')) ↔ hasBag hp:=by
  constructor
  ·exact fun g=>g.of (Kpf rfl)
  ·rintro⟨i,al,ar,lt,h⟩
   refine⟨i,al,ar,lt,?_⟩
   have:i≠id:=fun e=>by subst e;rw[ho] at h;cases h
   rw[gSn (Ne.symm this)];exact h
 have hown:own (hp.set id (.box t gs')) M=own hp M:=Kpd (fun b=>or_congr (hob b) (and_congr hbag Iff.rfl)) rfl hbag
 have hownZ:ownZ Z (hp.set id (.box t gs')) M=ownZ Z hp M:=Kpi (fun b=>by rw[hown]) rfl
 refine⟨⟨by simp[hr.len],fun i o m h1 h2=>?_,fun b hb=>hr.apart b (by rw[hown] at hb;exact hb),hr.old,hr.amb,fun i j oi oj b c c' hi hj li lj mi mj=>?_,hr.bags.mono rfl (Nat.le_refl _) (fun b _=>(hob b).1) (Kpf rfl)⟩,hown⟩
 ·rw[hownZ]
  rcases get i o h1 with⟨rfl,rfl⟩ | ⟨_,h⟩
  ·have:=hr.obj i _ m ho h2
   match m,this with
   | some (b,c),⟨cs,e1,e2,e3⟩=>
    refine⟨cs,e1,by rw[hl];exact e2,fun j g' hg'=>?_⟩
    obtain⟨g,hg,hv⟩:=hc j g' hg'
    obtain⟨v,f1,f2,f3⟩:=e3 j g hg
    exact⟨v,f1,f2,hv v f3⟩
  ·exact hr.obj i o m h h2
 ·have key:∀ (i:Nat) (o:Ob),(hp.set id (.box t gs'))[i]?=some o→o.live=true→∃ o',hp[i]?=some o'∧o'.live=true:=fun i o h hl=>by
   rcases get i o h with⟨rfl,rfl⟩ | ⟨_,h⟩
   ·exact⟨_,ho,rfl⟩
   ·exact⟨o,h,hl⟩
  obtain⟨o1,k1,k2⟩:=key i oi hi li
  obtain⟨o2,k3,k4⟩:=key j oj hj lj
  exact hr.inj i j o1 o2 b c c' k1 k3 k2 k4 mi mj
theorem Kna{c:Code}(id k:Nat)(te:TypeId)(sz:Nat){t:TypeId}{gs:List G}(hp2:List Ob)(ho:hp[id]?=some (.box t gs))(hk:gs[k]?=some (.d (.v (.slice none 0 0))))(hhp:hp.set id (.box t (gs.set k (.sl hp.length 0)))++[.row te sz 0 []]=hp2)(hF:F≤hp.length)
  (kk:St.holds P F N Q (.code c ks) fr hp2):St.holds P F N Q (.code c ks) fr hp:=by
 subst hhp
 intro Z w0 O0 M0 w M a hs ha hr
 obtain⟨k1,k2,k3⟩:=Kks te sz hr.heap
 have hid:id<hp.length:=(gEs.1 ho).1
 have hlt:k<gs.length:=(gEs.1 hk).1
 obtain⟨r1,r2⟩:=Kmz (gs':=gs.set k (.sl hp.length 0)) k1 (by rw[gAl hid];exact ho) (by simp) fun j g' hg'=>by
  by_cases hjk:k=j
  ·subst hjk
   rw[gSs hlt] at hg'
   cases hg'
   refine⟨_,hk,fun v hv=>?_⟩
   rw[vr_v hv]
   exact .slnil (by rw[←hr.heap.len];simp)
  ·rw[gSn hjk] at hg'
   exact⟨g',hg',fun _ h=>h⟩
 rw[List.set_append_left _ _ hid] at r1 r2
 refine kk Z w0 O0 M0 w _ a (hs.trans (by rw[r2];exact k2)) (ha.trans k3 hF) ⟨r1,fun t' g hg=>?_,hr.size,hr.defers⟩
 obtain⟨v,e1,e2⟩:=hr.fr t' g hg
 have hz:ownZ Z (hp.set id (.box t (gs.set k (.sl hp.length 0)))++[.row te sz 0 []]) (M.app [none])=ownZ Z (hp++[.row te sz 0 []]) (M.app [none]):=Kpi (fun b=>by rw[r2]) rfl
 rw[hz]
 exact⟨v,e1,e2.step (Kpj Z k2) fun i hi=>gAl hi⟩
variable{fop:Operand}{args:Array Operand}{ts:Array TypeId}{f:FuncId}{g1 g2 gs gs':List G}
def D.isV:D→Bool
 | .v _=>true
 | _=>false
end
section
variable{P:Program}{Γ:TypeId→Option TI}{F N:Nat}{Q:GPost}{fr fr':Fr}{hp hp':List Ob}{ks:List Kt}
variable{K W:Type}[BEq K][KLt K]{kv:K→Value}{ops:Array Oper}{rest:List Oper}{g:G}
variable{d:Tmp}{op:Op}{ty:TypeId}{pos:String}{after:Array Edge}{gd:Option (Nat×Bool)}
end
end Go.Gk
namespace Go.Gk
def hdG(k:Option Nat)(id:Nat):G:=match k with
 | some off=>.ptr id off
 | none=>.map id
def Ar.ob:Ar→Ob
 | .map _ agg es=>.map agg es none
 | .box _ ty ds=>.box ty (ds.map .d)
 | .row _ ty sz n ds=>.row ty sz n ds
theorem Ar.ob_live(a:Ar):a.ob.live=true:=by cases a<;>rfl
theorem Ar.ob_bag(a:Ar):a.ob.isBag=false:=by cases a<;>rfl
theorem ArR.ob{w:World}{O:Ow}{M M':Mp}{a:Ar}(h:ArR w O M a)(hnr:a.isRow=false):∃ x:Tg,M.h[a.t]?=some (some x)∧x.sz=0∧ObR w O M' a.ob (some (x.b,0)):=by
 cases a with
 | map t agg es=>exact let ⟨x,e1,e2,e3⟩:=h;⟨x,e1,e2,e3⟩
 | box t ty ds=>
  obtain⟨x,e1,e2,cs,e3,e4,e5⟩:=h
  refine⟨x,e1,e2,cs,e3,by simp[e4],fun j g hg=>?_⟩
  rw[gMp] at hg
  obtain⟨d,hd,rfl⟩:=oMs.1 hg
  obtain⟨v,f1,f2⟩:=e5 j d hd
  exact⟨v,f1,f2.one,.d f2⟩
 | row _ _ _ _ _=>cases hnr
theorem RelH.lend{Z:Env}{hp:List Ob}{M:Mp}{w:World}(hr:RelH Z hp M w){bg:Nat}{al:List Bool}{ar ar':List Ar}{lt:List (Nat×Nat)}{a:Ar}(hbag:hp[bg]?=some (.bag al ar lt))(hperm:ar.Perm (a :: ar'))(hnr:a.isRow=false) :
  ∃ x:Tg,M.h[a.t]?=some (some x)∧RelH Z ((hp.set bg (.bag al ar' ((a.t,hp.length) :: lt)))++[a.ob]) (M.app [some (x.b,0)]) w∧own ((hp.set bg (.bag al ar' ((a.t,hp.length) :: lt)))++[a.ob]) (M.app [some (x.b,0)])=own hp M:=by
 obtain⟨hbm,q1,q2,q3,q4,q5,q6⟩:=hr.bag_none hbag
 have hbl:bg<hp.length:=(gEs.1 hbag).1
 have hmem:a∈ar:=hperm.mem_iff.2 (mCs ..)
 obtain⟨x,hx,hxz,hxo⟩:=(q4 a hmem).1.ob (M':=M) hnr
 refine⟨x,hx,?_⟩
 have hno:¬ obOwn hp M x.b:=fun h=>let ⟨id,h1⟩:=hr.bags.lnd bg al ar lt hbag a.t x hx h;(q4 a hmem).2.1 id h1
 have hpw:(a :: ar').Pairwise (fun a a'=>a.t≠a'.t):=(hperm.pairwise_iff fun h=>Ne.symm h).1 q5
 have hcase:∀ (i:Nat) (o:Ob),((hp.set bg (.bag al ar' ((a.t,hp.length) :: lt)))++[a.ob])[i]?=some o→(i≠bg∧i<hp.length∧hp[i]?=some o)∨(i=bg∧o=.bag al ar' ((a.t,hp.length) :: lt))∨(i=hp.length∧o=a.ob):=fun i o h=>by
  by_cases hi:i<hp.length
  ·rw[gAl (by simpa using hi)] at h
   by_cases hb:bg=i
   ·subst hb;rw[gSs hbl] at h;cases h;exact .inr (.inl ⟨rfl,rfl⟩)
   ·rw[gSn hb] at h;exact .inl ⟨Ne.symm hb,hi,h⟩
  ·rw[gAr (by simpa using hi)] at h
   simp only[List.length_set] at h
   have:i - hp.length=0:=by
    have:=(gEs.1 h).1
    simp at this;omega
   rw[this] at h
   simp at h
   exact .inr (.inr ⟨by omega,h.symm⟩)
 have hMo:∀ i,i<M.l.length→(M.app [some (x.b,0)]).l[i]?=M.l[i]?:=fun i hi=>gAl hi
 have hMn:(M.app [some (x.b,0)]).l[hp.length]?=some (some (x.b,0)):=by rw[←hr.len];simp
 have hob:∀ b,obOwn ((hp.set bg (.bag al ar' ((a.t,hp.length) :: lt)))++[a.ob]) (M.app [some (x.b,0)]) b ↔ obOwn hp M b∨b=x.b:=fun b=>by
  constructor
  ·rintro⟨i,o,c,h1,h2,h3⟩
   rcases hcase i o h1 with⟨_,hi,h⟩ | ⟨rfl,rfl⟩ | ⟨rfl,rfl⟩
   ·exact .inl ⟨i,o,c,h,h2,by rw[←hMo i (by rw[hr.len];exact hi)];exact h3⟩
   ·rw[hMo _ (by rw[hr.len];exact hbl),hbm] at h3;cases h3
   ·rw[hMn] at h3;cases h3;exact .inr rfl
  ·rintro(⟨i,o,c,h1,h2,h3⟩ | rfl)
   ·have hi:i<hp.length:=(gEs.1 h1).1
    have hne:bg≠i:=fun e=>by subst e;rw[hbm] at h3;cases h3
    exact⟨i,o,c,by rw[gAl (by simpa using hi),gSn hne];exact h1,h2,by rw[hMo i (by rw[hr.len];exact hi)];exact h3⟩
   ·exact⟨hp.length,a.ob,0,by rw[gAr (by simp)];simp,a.ob_live,hMn⟩
 have hg:hasBag hp:=⟨bg,al,ar,lt,hbag⟩
 have hg':hasBag ((hp.set bg (.bag al ar' ((a.t,hp.length) :: lt)))++[a.ob]):=⟨bg,al,ar',_,by rw[gAl (by simpa using hbl),gSs hbl]⟩
 have hown:own ((hp.set bg (.bag al ar' ((a.t,hp.length) :: lt)))++[a.ob]) (M.app [some (x.b,0)])=own hp M:=Kpd (fun b=>by
  constructor
  ·rintro(h | ⟨_,h⟩)
   ·rcases(hob b).1 h with h | rfl
    ·exact .inl h
    ·exact .inr ⟨hg,x,mOg hx,rfl⟩
   ·exact .inr ⟨hg,h⟩
  ·rintro(h | ⟨_,h⟩)
   ·exact .inl ((hob b).2 (.inl h))
   ·exact .inr ⟨hg',h⟩) rfl ⟨fun _=>hg,fun _=>hg'⟩
 have hownZ:ownZ Z ((hp.set bg (.bag al ar' ((a.t,hp.length) :: lt)))++[a.ob]) (M.app [some (x.b,0)])=ownZ Z hp M:=by unfold ownZ;rw[hown]
 have hbags:∀ (i:Nat) (al1:List Bool) (ar1:List Ar) (lt1:List (Nat×Nat)),((hp.set bg (.bag al ar' ((a.t,hp.length) :: lt)))++[a.ob])[i]?=some (.bag al1 ar1 lt1)→i=bg∧lt1=(a.t,hp.length) :: lt:=fun i al1 ar1 lt1 h=>by
  rcases hcase i _ h with⟨h1,_,h2⟩ | ⟨h1,h2⟩ | ⟨_,h2⟩
  ·exact absurd (hr.bags.one _ _ _ _ _ _ _ _ h2 hbag) h1
  ·cases h2;exact⟨h1,rfl⟩
  ·have:=a.ob_bag;rw[←h2] at this;cases this
 refine⟨⟨by simp[hr.len],fun i o m h1 h2=>?_,fun b hb hz=>hr.apart b (by rw[hown] at hb;exact hb) hz,hr.old,hr.amb,fun i j oi oj b c c' hi hj li lj mi mj=>?_,⟨fun y hy=>⟨(hr.bags.tgs y hy).1,fun hz h=>?_⟩,fun i j al1 al2 ar1 ar2 lt1 lt2 hi hj=>(hbags i _ _ _ hi).1.trans (hbags j _ _ _ hj).1.symm,fun i al1 ar1 lt1 hi t y hy h=>?_,hr.bags.hds⟩⟩,hown⟩
 ·rw[hownZ]
  rcases hcase i o h1 with⟨hne,hi,h⟩ | ⟨rfl,rfl⟩ | ⟨rfl,rfl⟩
  ·rw[hMo i (by rw[hr.len];exact hi)] at h2
   have:=hr.obj i o m h h2
   exact this.move (k:=M.l.length) (.refl _ _) hMo this.bel (fun _ _ _ _=>rfl) (fun _ _ _ _=>⟨rfl,fun _ _ _=>rfl⟩)
  ·rw[hMo _ (by rw[hr.len];exact hbl),hbm] at h2
   cases h2
   refine⟨q1,q2,q3,fun a1 ha1=>⟨((q4 a1 (hperm.mem_iff.2 (mCo _ ha1))).1).same rfl,fun id hm=>?_,(q4 a1 (hperm.mem_iff.2 (mCo _ ha1))).2.2⟩,(List.pairwise_cons.1 hpw).2,fun t id hm=>?_⟩
   ·rcases List.mem_cons.1 hm with e | hm
    ·exact(List.pairwise_cons.1 hpw).1 a1 ha1 (congrArg Prod.fst e).symm
    ·exact(q4 a1 (hperm.mem_iff.2 (mCo _ ha1))).2.1 id hm
   ·rcases List.mem_cons.1 hm with e | hm
    ·cases e;exact⟨x,0,hx,hxz,hMn⟩
    ·obtain⟨y,c,e1,e2,e3⟩:=q6 t id hm
     exact⟨y,c,e1,e2,(hMo id (Mp.lt e3)).trans e3⟩
  ·rw[hMn] at h2
   cases h2
   exact hxo.move (k:=M.l.length) (.refl _ _) hMo hxo.bel (fun _ _ _ _=>rfl) (fun _ _ _ e=>by have:=a.ob_bag;rw[e] at this;cases this)
 ·rcases hcase i oi hi with⟨_,hil,hi⟩ | ⟨rfl,rfl⟩ | ⟨rfl,rfl⟩
  ·rw[hMo i (by rw[hr.len];exact hil)] at mi
   rcases hcase j oj hj with⟨_,hjl,hj⟩ | ⟨rfl,rfl⟩ | ⟨rfl,rfl⟩
   ·rw[hMo j (by rw[hr.len];exact hjl)] at mj
    exact hr.inj i j oi oj b c c' hi hj li lj mi mj
   ·rw[hMo _ (by rw[hr.len];exact hbl),hbm] at mj;cases mj
   ·rw[hMn] at mj;cases mj;exact absurd ⟨i,oi,c,hi,li,mi⟩ hno
  ·rw[hMo _ (by rw[hr.len];exact hbl),hbm] at mi;cases mi
  ·rw[hMn] at mi
   cases mi
   rcases hcase j oj hj with⟨_,hjl,hj⟩ | ⟨rfl,rfl⟩ | ⟨rfl,rfl⟩
   ·rw[hMo j (by rw[hr.len];exact hjl)] at mj
    exact absurd ⟨j,oj,c',hj,lj,mj⟩ hno
   ·rw[hMo _ (by rw[hr.len];exact hbl),hbm] at mj;cases mj
   ·rfl
 ·rcases(hob _).1 h with h | e
  ·exact(hr.bags.tgs y hy).2 hz h
  ·obtain⟨t,ht⟩:=List.getElem?_of_mem hy
   have ht':M.h[t]?=some (some y):=ht
   have:=hr.bags.hds a.t t x y hx ht' hxz e
   subst this
   rw[hx] at ht'
   cases ht'
   omega
 ·obtain⟨_,rfl⟩:=hbags i _ _ _ hi
  have hy':M.h[t]?=some (some y):=hy
  rcases(hob _).1 h with h | e
  ·obtain⟨id,h1⟩:=hr.bags.lnd bg al ar lt hbag t y hy' h
   exact⟨id,mCo _ h1⟩
  ·have:=hr.bags.hds a.t t x y hx hy' hxz e
   subst this
   exact⟨hp.length,mCs ..⟩
def Ar.of:Ar→Ob→Prop
 | .map _ agg es,.map agg' es' _=>agg'=agg∧es'=es
 | .box _ ty ds,.box ty' gs=>ty'=ty∧gs=ds.map .d
 | _,_=>False
theorem ArR.of_ob{w:World}{O:Ow}{M:Mp}{a:Ar}{o:Ob}{x:Tg}{c:Nat}(ha:a.of o)(h:ObR w O M o (some (x.b,c)))(hx:M.h[a.t]?=some (some x))(hz:x.sz=0):ArR w O M a:=by
 cases a with
 | map t agg es=>
  cases o with
  | map agg' es' st=>
   obtain⟨rfl,rfl⟩:=ha
   obtain⟨ms,cl,es',h1,p1,p2,p3,h2⟩:=h
   exact⟨x,hx,hz,ms,cl,es',h1,p1,p2,(fun raw e=>by cases e),h2⟩
  | _=>exact ha.elim
 | box t ty ds=>
  cases o with
  | box ty' gs=>
   obtain⟨rfl,rfl⟩:=ha
   obtain⟨cs,h1,h2,h3⟩:=h
   refine⟨x,hx,hz,cs,h1,by simpa using h2,fun j d hd=>?_⟩
   obtain⟨v,e1,e2,e3⟩:=h3 j (.d d) (by rw[gMp,hd];rfl)
   refine⟨v,e1,?_⟩
   cases e3 with
   | d h=>exact h
  | _=>exact ha.elim
 | row _ _ _ _ _=>cases o<;>exact ha.elim
theorem RelH.back{Z:Env}{hp:List Ob}{M:Mp}{w:World}(hr:RelH Z hp M w){bg id:Nat}{al:List Bool}{ar:List Ar}{a:Ar}{o:Ob}(hbag:hp[bg]?=some (.bag al ar [(a.t,id)]))(ho:hp[id]?=some o)(hl:o.live=true)(hoa:a.of o) :
  RelH Z ((hp.set id .dead).set bg (.bag al (a :: ar) [])) M w∧own ((hp.set id .dead).set bg (.bag al (a :: ar) [])) M=own hp M:=by
 obtain⟨hbm,q1,q2,q3,q4,q5,q6⟩:=hr.bag_none hbag
 have hbl:bg<hp.length:=(gEs.1 hbag).1
 have hid:id<hp.length:=(gEs.1 ho).1
 obtain⟨x,c0,hx,hxz,hMx⟩:=q6 a.t id (mCs ..)
 have hcase:∀ (i:Nat) (o1:Ob),((hp.set id .dead).set bg (.bag al (a :: ar) []))[i]?=some o1→(i≠bg∧i≠id∧hp[i]?=some o1)∨(i=bg∧o1=.bag al (a :: ar) [])∨(i≠bg∧o1=.dead):=fun i o1 h=>by
  by_cases hb:bg=i
  ·subst hb;rw[gSs (by simpa using hbl)] at h;cases h;exact .inr (.inl ⟨rfl,rfl⟩)
  ·rw[gSn hb] at h
   by_cases hi:id=i
   ·subst hi;rw[gSs hid] at h;cases h;exact .inr (.inr ⟨Ne.symm hb,rfl⟩)
   ·rw[gSn hi] at h;exact .inl ⟨Ne.symm hb,Ne.symm hi,h⟩
 have hob:∀ b,obOwn ((hp.set id .dead).set bg (.bag al (a :: ar) [])) M b→obOwn hp M b∧b≠x.b:=fun b h=>by
  obtain⟨i,o1,c,h1,h2,h3⟩:=h
  rcases hcase i o1 h1 with⟨_,hi,h⟩ | ⟨rfl,rfl⟩ | ⟨_,rfl⟩
  ·exact⟨⟨i,o1,c,h,h2,h3⟩,fun e=>by subst e;exact hi (hr.inj i id o1 o _ c c0 h ho h2 hl h3 hMx)⟩
  ·rw[hbm] at h3;cases h3
  ·cases h2
 have hob2:∀ b,obOwn hp M b→obOwn ((hp.set id .dead).set bg (.bag al (a :: ar) [])) M b∨b=x.b:=fun b h=>by
  obtain⟨i,o1,c,h1,h2,h3⟩:=h
  have hne:bg≠i:=fun e=>by subst e;rw[hbm] at h3;cases h3
  by_cases hi:id=i
  ·subst hi;rw[hMx] at h3;cases h3;exact .inr rfl
  ·exact .inl ⟨i,o1,c,by rw[gSn hne,gSn hi];exact h1,h2,h3⟩
 have hg:hasBag hp:=⟨bg,al,ar,_,hbag⟩
 have hg':hasBag ((hp.set id .dead).set bg (.bag al (a :: ar) [])):=⟨bg,al,_,_,gSs (by simpa using hbl)⟩
 have hown:own ((hp.set id .dead).set bg (.bag al (a :: ar) [])) M=own hp M:=Kpd (fun b=>by
  constructor
  ·rintro(h | ⟨_,h⟩)
   ·exact .inl (hob b h).1
   ·exact .inr ⟨hg,h⟩
  ·rintro(h | ⟨_,h⟩)
   ·rcases hob2 b h with h | rfl
    ·exact .inl h
    ·exact .inr ⟨hg',x,mOg hx,rfl⟩
   ·exact .inr ⟨hg',h⟩) rfl ⟨fun _=>hg,fun _=>hg'⟩
 have hownZ:ownZ Z ((hp.set id .dead).set bg (.bag al (a :: ar) [])) M=ownZ Z hp M:=by unfold ownZ;rw[hown]
 have hbags:∀ (i:Nat) (al1:List Bool) (ar1:List Ar) (lt1:List (Nat×Nat)),((hp.set id .dead).set bg (.bag al (a :: ar) []))[i]?=some (.bag al1 ar1 lt1)→i=bg:=fun i al1 ar1 lt1 h=>by
  rcases hcase i _ h with⟨h1,_,h2⟩ | ⟨h1,h2⟩ | ⟨_,h2⟩
  ·exact absurd (hr.bags.one _ _ _ _ _ _ _ _ h2 hbag) h1
  ·exact h1
  ·cases h2
 refine⟨⟨by simp[hr.len],fun i o1 m h1 h2=>?_,fun b hb hz=>hr.apart b (by rw[hown] at hb;exact hb) hz,hr.old,hr.amb,fun i j oi oj b c c' hi hj li lj mi mj=>?_,⟨fun y hy=>⟨(hr.bags.tgs y hy).1,fun hz h=>(hr.bags.tgs y hy).2 hz (hob _ h).1⟩,fun i j al1 al2 ar1 ar2 lt1 lt2 hi hj=>(hbags i _ _ _ hi).trans (hbags j _ _ _ hj).symm,fun i al1 ar1 lt1 hi t y hy h=>?_,hr.bags.hds⟩⟩,hown⟩
 ·rw[hownZ]
  rcases hcase i o1 h1 with⟨_,hi,h⟩ | ⟨rfl,rfl⟩ | ⟨_,rfl⟩
  ·exact hr.obj i o1 m h h2
  ·rw[hbm] at h2
   cases h2
   refine⟨q1,q2,q3,fun a1 ha1=>⟨?_,fun id hm=>by simp at hm,fun hrow=>?_⟩,List.pairwise_cons.2 ⟨fun a1 ha1 e=>(q4 a1 ha1).2.1 id (by rw[e];exact mCs ..),q5⟩,fun t id hm=>by simp at hm⟩
   rotate_left
   ·rcases List.mem_cons.1 ha1 with rfl | ha1
    ·cases a1<;>first | (cases hrow;done) | (cases o<;>exact hoa.elim)
    ·exact(q4 a1 ha1).2.2 hrow
   rcases List.mem_cons.1 ha1 with rfl | ha1
   ·exact ArR.of_ob hoa (hr.obj id o _ ho hMx) hx hxz
   ·exact(q4 a1 ha1).1
  ·cases m<;>trivial
 ·have key:∀ (i:Nat) (o1:Ob) (c:Nat),((hp.set id .dead).set bg (.bag al (a :: ar) []))[i]?=some o1→o1.live=true→M.l[i]?=some (some (b,c))→hp[i]?=some o1:=fun i o1 c e1 e2 e3=>by
   rcases hcase i o1 e1 with⟨_,_,h⟩ | ⟨rfl,rfl⟩ | ⟨_,rfl⟩
   ·exact h
   ·rw[hbm] at e3;cases e3
   ·cases e2
  exact hr.inj i j oi oj b c c' (key i oi c hi li mi) (key j oj c' hj lj mj) li lj mi mj
 ·exfalso
  obtain⟨h1,h2⟩:=hob _ h
  obtain⟨id',h3⟩:=hr.bags.lnd bg al ar _ hbag t y hy h1
  simp at h3
  obtain⟨rfl,rfl⟩:=h3
  rw[hx] at hy
  cases hy
  exact h2 rfl
section
variable{P:Program}{Γ:TypeId→Option TI}{F N:Nat}{Q:GPost}{fr fr':Fr}{hp hp':List Ob}{ks:List Kt}
variable{ops:Array Oper}{rest:List Oper}{g:G}{α:Type}{enc:α→List D}
def AllHd(fr:Fr)(id:Nat):List (Nat×Option Nat)→Prop
 | []=>True
 | e :: L=>fr.get e.1=some (hdG e.2 id)∧AllHd fr id L
def hdL:List (Nat×Option Nat)→Nat→Fr
 | [],_=>[]
 | e :: L,h=>(e.1,.d (.hd e.2 h)) :: hdL L h
theorem AllHd.at{fr:Fr}{id:Nat}:∀ {L:List (Nat×Option Nat)},AllHd fr id L→∀ {t:Nat} {k:Option Nat},(t,k)∈L→fr.get t=some (hdG k id)
 | e :: L,h,t,k,hm=>by
  rcases List.mem_cons.1 hm with rfl | hm
  ·exact h.1
  exact AllHd.at h.2 hm
end
end Go.Gk
namespace Go.Gk
def hGet{α:Type}(l:List (Nat×α)):Nat→Option α
 | 0=>none
 | t+1=>(l.find? fun e=>t==e.1).map (·.2)
def hSet{α:Type}(l:List (Nat×α))(h:Nat)(x:α):List (Nat×α):=match h with
 | 0=>l
 | t+1=>match l.findIdx? (fun e=>t==e.1) with
  | some i=>l.set i (t,x)
  | none=>l
def hDel{α:Type}(l:List (Nat×α))(h:Nat):List (Nat×α):=match h with
 | 0=>l
 | t+1=>match l.findIdx? (fun e=>t==e.1) with
  | some i=>l.eraseIdx i
  | none=>l
abbrev arG{α:Type}(f:Nat→α→Ar)(l:List (Nat×α)):List Ar:=l.map fun e=>f e.1 e.2
abbrev fM{K V:Type}(kv:K→Value)(agg:Bool)(enc:V→List D)(t:Nat)(m:List (K×V)):Ar:=.map t agg (m.map fun e=>(kv e.1,enc e.2))
abbrev fB{X:Type}(ty:TypeId)(enc:X→List D)(t:Nat)(x:X):Ar:=.box t ty (enc x)
def ArU(ar:List Ar)(h:Nat)(a a':Ar)(arn:List Ar):Prop:=h=a.t+1∧a'.t=a.t∧∃ ar',ar.Perm (a :: ar')∧arn.Perm (a' :: ar')
def ArD(ar:List Ar)(h:Nat)(a:Ar)(ar':List Ar):Prop:=h=a.t+1∧ar.Perm (a :: ar')
theorem ArU.l{ar arn:List Ar}{h:Nat}{a a':Ar}(r:List Ar)(hu:ArU ar h a a' arn):ArU (ar++r) h a a' (arn++r):=
 let ⟨h1,h2,ar',h3,h4⟩:=hu;⟨h1,h2,ar'++r,h3.append_right r,h4.append_right r⟩
theorem ArU.r{ar arn:List Ar}{h:Nat}{a a':Ar}(l:List Ar)(hu:ArU ar h a a' arn):ArU (l++ar) h a a' (l++arn):=
 let ⟨h1,h2,ar',h3,h4⟩:=hu;⟨h1,h2,l++ar',(h3.append_left l).trans List.perm_middle,(h4.append_left l).trans List.perm_middle⟩
theorem ArD.l{ar ar':List Ar}{h:Nat}{a:Ar}(r:List Ar)(hu:ArD ar h a ar'):ArD (ar++r) h a (ar'++r):=⟨hu.1,hu.2.append_right r⟩
theorem ArD.r{ar ar':List Ar}{h:Nat}{a:Ar}(l:List Ar)(hu:ArD ar h a ar'):ArD (l++ar) h a (l++ar'):=⟨hu.1,(hu.2.append_left l).trans List.perm_middle⟩
abbrev eH(kd:Option Nat)(h:Nat):List D:=[.hd kd h]
def ZDv(agg:Bool)(ds:List D)(v:Value):Prop:=∀ w O,DV w O agg ds v
theorem G.Le.hdN{kd:Option Nat}:G.Le (.d (.v (hval kd none))) (.d (.hd kd 0)):=fun w O M v hv=>by
 rw[vr_v hv]
 exact .d (.hd _ _ _ rfl)
section
variable{P:Program}{Γ:TypeId→Option TI}{F N:Nat}{Q:GPost}{fr fr':Fr}{hp hp':List Ob}{ks:List Kt}
variable{ops:Array Oper}{rest:List Oper}{g:G}
variable{d:Tmp}{op:Op}{ty t':TypeId}{pos:String}{after:Array Edge}{gd:Option (Nat×Bool)}
variable{K V:Type}[BEq K][KLt K]{kv:K→Value}{agg:Bool}{enc:V→List D}
end
end Go.Gk
namespace Go.Gk
def rangeW{α σ:Type}(f:α→σ→Option σ)(m:List α)(s:σ)(Q:σ→Prop):Prop:=∀ m':List α,m'.Perm m→∃ r,rangeL f m' s=some r∧Q r
def okW{α:Type}(o:Option α)(Q:α→Prop):Prop:=∃ r,o=some r∧Q r
def loopW{σ ρ:Type}(G:σ→(LS σ ρ→Prop)→Prop):Nat→σ→(ρ→Prop)→Prop
 | 0,_,_=>False
 | k+1,s,Q=>G s fun x=>match x with
  | .go s'=>loopW G k s' Q
  | .out r=>Q r
noncomputable def loopD {σ ρ:Type} (G:σ→(LS σ ρ→Prop)→Prop) (k:Nat) (s:σ):Option ρ:=
 open Classical in if h:∃ r,loopW G k s (fun r'=>r'=r) then some (Classical.choose h) else none
structure WOk{σ ρ:Type}(G:σ→(LS σ ρ→Prop)→Prop):Prop where
 mono:∀ s (C D:LS σ ρ→Prop),(∀ x,C x→D x)→G s C→G s D
 both:∀ s (C D:LS σ ρ→Prop),G s C→G s D→∃ x,C x∧D x
section
variable{P:Program}{F N:Nat}{Q:GPost}{fr fr':Fr}{hp hp':List Ob}{ks:List Kt}
variable{K V:Type}[BEq K][KLt K]{kv:K→Value}{agg:Bool}{enc:V→List D}
end
end Go.Gk
namespace Go.Gk
structure KeyP(P:Program){K:Type}[BEq K](kt:TypeId)(kv:K→Value):Prop where
 find:∀ (w:World) (k:K) (l:List MapEntry) (m:List K),l.length=m.length→(∀ (j:Nat) (e:MapEntry) (x:K),l[j]?=some e→m[j]?=some x→e.key=kv x)→
  (Instr.findKey kt (kv k) l).run P w=.ok ((m.findIdx? fun x=>k==x).bind fun j=>(l[j]?).map fun e=>(j,e.val)) w
 check:∀ (w:World) (em:Bool) (k:K),(Instr.checkKey em 10000 kt (kv k)).run P w=.ok () w
 bits:∀ a b:K,(a==b)=true→Instr.sameBits 10000 (kv b) (kv a)=true
 ne:∀ a b:K,(a==b)=false→kv b≠kv a
 eq:∀ a b:K,(a==b)=true→a=b
 refl:∀ a:K,(a==a)=true
abbrev D.val:D→Value
 | .v x=>x
 | _=>.bool false
abbrev kD{K:Type}(enc:K→List D)(k:K):Value:=.agg ((enc k).map D.val).toArray
abbrev kG{K:Type}(enc:K→List D)(k:K):G:=.agg ((enc k).map G.d)
theorem Knb(a:Array UInt8):((⟨a⟩:ByteArray)==⟨a⟩)=true:=by
 show(a==a)=true
 simp
def Env.nil:Env:=⟨fun _=>False,fun _=>False,fun _ h=>h,fun _=>False,fun _ _ _ h=>h,fun _ h=>h.elim⟩
def D.isVal:D→Bool
 | .v x=>x.oneCell'
 | _=>false
theorem Knc{K:Type}{enc:K→List D}(hv:∀ k,(enc k).all D.isVal=true)(w:World)(O:Ow)(M:Mp)(k:K):VR w O M (kG enc k) (kD enc k):=by
 refine .agg (by simp) fun j g v hg h=>?_
 rw[gMp] at hg
 obtain⟨d,hd,rfl⟩:=oMs.1 hg
 have hc:=lAe.1 (hv k) d (mOg hd)
 have h':v=D.val d:=by
  simp[hd] at h
  exact h.symm
 subst h'
 match d,hc with
 | .v x,hc=>exact .d (.v _ hc)
theorem Knd{K:Type}{enc:K→List D}(hv:∀ k,(enc k).all D.isVal=true){w:World}{O:Ow}{M:Mp}{k:K}{v:Value}(h:VR w O M (kG enc k) v):v=kD enc k:=by
 cases h with
 | agg hl hr=>
  rename_i cs
  congr 1
  apply Array.ext
  ·simpa using hl
  intro j h1 h2
  have hj:j<(enc k).length:=by simpa using h2
  have hd:(enc k)[j]?=some (enc k)[j]:=gGe hj
  have hc:=lAe.1 (hv k) _ (List.getElem_mem hj)
  have:=hr j (.d (enc k)[j]) cs[j] (by rw[gMp,hd];rfl) (Array.getElem?_eq_getElem h1)
  simp only[List.getElem_toArray,List.getElem_map]
  generalize (enc k)[j]=d at *
  match d,hc with
  | .v x,hc=>exact vr_v this
def flatK:TypeDesc→Bool
 | .int _ | .bool | .string=>true
 | _=>false
theorem Kne{P:Program}{w:World}{t:TypeId}{d:TypeDesc}(hu:P.underlying t=some d)(hd:flatK d=true)(em:Bool)(n:Nat)(v:Value):(Instr.checkKey em (n+1) t v).run P w=.ok () w:=by
 unfold Instr.checkKey
 simp only[Sem.run_bind,run_underlying hu,Result.andThen]
 cases d<;>simp_all [flatK]
def flatFs(Γ:TypeId→Option TI)(xs:List G):List Field→Bool
 | []=>true
 | f :: fs=>(match Γ f.type with
  | some ⟨.int k,a,b,z⟩=>(partG ⟨.int k,a,b,z⟩ xs f.offset).isSome
  | some ⟨.bool,a,b,z⟩=>(partG ⟨.bool,a,b,z⟩ xs f.offset).isSome
  | some ⟨.string,a,b,z⟩=>(partG ⟨.string,a,b,z⟩ xs f.offset).isSome
  | _=>false)&&flatFs Γ xs fs
section
variable{P:Program}{Γ:TypeId→Option TI}
theorem Knf{K:Type}[BEq K](hΓ:TOK P Γ)(L:List Nat){kt:TypeId}{fs:Array Field}{sz by_:Nat}{z:Value}(enc:K→List D)(h:Γ kt=some ⟨.struct fs,sz,by_,z⟩)(hL:(L.all fun t=>!P.stoodInHeld t)=true)(hv:∀ k,(enc k).all D.isVal=true)
  (hf:∀ k,flatFs Γ ((enc k).map G.d) fs.toList=true) (he:∀ a b:K,eqG Γ L 9 kt (kG enc a) (kG enc b)=some (a==b)) (heq:∀ a b:K,(a==b)=true→a=b) (hre:∀ a:K,(a==a)=true) (hb:∀ a:K,Instr.sameBits 10000 (kD enc a) (kD enc a)=true):KeyP P kt (kD enc):=by
 obtain⟨hu,_⟩:=hΓ kt _ h
 have hvr:=fun w k=>Knc hv w (ownZ Env.nil [] ⟨[],[]⟩) ⟨[],[]⟩ k
 have hE:∀ (w:World) (a b:K),(Op.equal kt (kD enc a) (kD enc b)).run P w=.ok (a==b) w:=fun w a b=>Kim (P:=P) (hp:=[]) (Z:=Env.nil) hΓ hL 9 10000 kt _ _ _ _ _ (he a b) (by decide) (hvr w a) (hvr w b)
 refine⟨fun w k l m hl hk=>?_,fun w em k=>?_,fun a b hab=>?_,fun a b hab hc=>?_,heq,hre⟩
 ·rw[run_findKey_eq w (by rw[hu])]
  have key:∀ (l:List MapEntry) (m:List K) (i:Nat),l.length=m.length→(∀ (j:Nat) (e:MapEntry) (x:K),l[j]?=some e→m[j]?=some x→e.key=kD enc x)→
    (Instr.findAsking kt (kD enc k) l i).run P w=.ok ((m.findIdx? fun x=>k==x).bind fun j=>(l[j]?).map fun e=>(i+j,e.val)) w:=by
   intro l
   induction l with
   | nil=>
    intro m i hl _
    cases m with
    | nil=>simp[Instr.findAsking]
    | cons _ _=>simp at hl
   | cons e l ih=>
    intro m i hl hk
    cases m with
    | nil=>simp at hl
    | cons x m=>
     have h0:=hk 0 e x (by simp) (by simp)
     have ih':=ih m (i+1) (by simpa using hl) fun j e x he hx=>hk (j+1) e x (by simpa using he) (by simpa using hx)
     simp only[Instr.findAsking,h0,Sem.run_bind,hE,Result.andThen_ok,List.findIdx?_cons]
     cases hb:(k==x) with
     | true=>simp
     | false=>
      simp only[Bool.false_eq_true,if_false,ih']
      cases m.findIdx? fun x=>k==x with
      | none=>rfl
      | some j=>simp[Nat.add_assoc,Nat.add_comm 1 j]
  simpa using key l m 0 hl hk
 ·have hg:=hf k
  have hpr:=hvr w k
  show(Instr.checkKey em (9999+1) kt (.agg ((enc k).map D.val).toArray)).run P w=.ok () w
  rw[Instr.checkKey]
  simp only[Sem.run_bind,run_underlying hu,Result.andThen_ok]
  rw[←Array.forIn_toList]
  generalize fs.toList=l at hg
  induction l with
  | nil=>simp
  | cons f l ih=>
   simp only[flatFs,Bool.and_eq_true] at hg
   have step:∃ (i:TI) (va:Value),Γ f.type=some i∧flatK i.desc=true∧(part f.type ((enc k).map D.val).toArray f.offset).run P w=.ok va w:=by
    have h1:=hg.1
    split at h1
    ·rename_i a b c d hi
     obtain⟨ga,hga⟩:=Option.isSome_iff_exists.1 h1
     obtain⟨va,e1,_⟩:=Kqs (P:=P) (hp:=[]) (Z:=Env.nil) (M:=⟨[],[]⟩) hΓ hi hpr hga
     exact⟨_,va,hi,rfl,e1⟩
    ·rename_i b c d hi
     obtain⟨ga,hga⟩:=Option.isSome_iff_exists.1 h1
     obtain⟨va,e1,_⟩:=Kqs (P:=P) (hp:=[]) (Z:=Env.nil) (M:=⟨[],[]⟩) hΓ hi hpr hga
     exact⟨_,va,hi,rfl,e1⟩
    ·rename_i b c d hi
     obtain⟨ga,hga⟩:=Option.isSome_iff_exists.1 h1
     obtain⟨va,e1,_⟩:=Kqs (P:=P) (hp:=[]) (Z:=Env.nil) (M:=⟨[],[]⟩) hΓ hi hpr hga
     exact⟨_,va,hi,rfl,e1⟩
    ·cases h1
   obtain⟨i,va,hi,hd,e1⟩:=step
   obtain⟨hu',_⟩:=hΓ f.type _ hi
   have e2:=Kne (P:=P) (w:=w) hu' hd em 9998 va
   simp only[List.forIn_cons,Sem.run_bind]
   by_cases hn:f.name = "_"
   ·simp only[hn,ne_eq,not_true_eq_false,if_false,Sem.run_pure,Result.andThen_ok]
    exact ih hg.2
   ·simp only[hn,ne_eq,not_false_eq_true,if_true,e1,e2,Result.andThen_ok,Sem.run_bind,Sem.run_pure]
    exact ih hg.2
 ·obtain rfl:=heq a b hab
  exact hb a
 ·have h1:=hE (default:World) a b
  have h2:=hE (default:World) a a
  rw[hc,h2,hre] at h1
  rw[hab] at h1
  cases h1
end
theorem Kng{K V:Type}[BEq K]{kv:K→Value}(heq:∀ a b:K,(a==b)=true→a=b){m' m:List (K×V)}(hp:m'.Perm m)(ha:Apart kv m')(k:K):mGet m' k=mGet m k:=by
 unfold mGet
 cases h1:m'.find? fun e=>k==e.1 with
 | none=>
  have:m.find? (fun e=>k==e.1)=none:=List.find?_eq_none.2 fun x hx=>List.find?_eq_none.1 h1 x (hp.mem_iff.2 hx)
  rw[this]
 | some x=>
  have hx:=List.mem_of_find?_eq_some h1
  have hkx:=heq k x.1 (List.find?_some (p:=fun e:K×V=>k==e.1) h1)
  cases h2:m.find? fun e=>k==e.1 with
  | none=>exact absurd (List.find?_some (p:=fun e:K×V=>k==e.1) h1) (List.find?_eq_none.1 h2 x (hp.mem_iff.1 hx))
  | some y=>
   have hy:=List.mem_of_find?_eq_some h2
   have hky:=heq k y.1 (List.find?_some (p:=fun e:K×V=>k==e.1) h2)
   rw[ha.one hx (hp.mem_iff.2 hy) (by rw[←hkx,←hky])]
section
variable{P:Program}{Γ:TypeId→Option TI}{F N:Nat}{Q:GPost}{fr fr':Fr}{hp hp':List Ob}{ks:List Kt}
variable{ops:Array Oper}{rest:List Oper}{g:G}
variable{d:Tmp}{op:Op}{ty:TypeId}{pos:String}{after:Array Edge}{gd:Option (Nat×Bool)}
variable{K V:Type}[BEq K][KLt K]{kv:K→Value}{agg:Bool}{enc:V→List D}{kenc:K→List D}
theorem MapAt.findP{kt:TypeId}{w:World}{O:Ow}{b:Nat}{m m':List (K×V)}{st}{ms:Array MapEntry}{cl:Nat}(h:MapAt w O kv agg enc b m m' st ms cl)(hK:KeyP P kt kv)(k:K) :
  (Instr.findKey kt (kv k) ms.toList).run P w=.ok ((m'.findIdx? fun e=>k==e.1).bind fun j=>(ms[j]?).map fun e=>(j,e.val)) w:=by
 have:=hK.find w k ms.toList (m'.map (·.1)) (by simpa using h.size) (fun j e x he hx=>by
  rw[gMp] at hx
  obtain⟨y,hy,rfl⟩:=oMs.1 hx
  obtain⟨e',e1,e2,_⟩:=h.get j y hy
  have:e=e':=by
   have he':ms[j]?=some e:=by simpa using he
   rw[e1] at he';exact(oSi he').symm
  rw[this];exact e2)
 rw[this,List.findIdx?_map]
 congr 2
 funext j
 simp
theorem Knh(hΓ:TOK P Γ){t kt et:TypeId}{i1 i3:TI}{x y:Operand}{id:Nat}{st:Option (List (Value×List D)×List Nat×Nat)}(m:List (K×V))(k:K)(z:V){gv:G}(h1:Γ t=some i1)(h1':i1.desc=.map kt et)(h3:Γ et=some i3)(hK:KeyP P kt (kD kenc))(hkv:∀ k,(kenc k).all D.isVal=true)
  (hx:fr.ev x=some (.map id)) (ho:hp[id]?=some (mObS (kD kenc) agg enc m st)) (hy:fr.ev y=some (kG kenc k)) (hz:zD i3.zero=enc z) (hag:isAggV i3.zero=agg) (hz1:(i3.zero.cells.toList.all (·.oneCell'))=true)
  (hg:dG agg (enc ((mGet m k).getD z))=some gv):OpP P N ⟨some d,.lookup t x y false,ty,pos,after,gd⟩ fr hp gv:=fun Z w M a hr=>by
 obtain⟨u1,_⟩:=hΓ t _ h1
 rw[h1'] at u1
 obtain⟨u3,inf,e1,e2,e3,e4⟩:=hΓ et _ h3
 have hvx:=hr.ev hx
 have hvy:=Knd hkv (hr.ev hy)
 simp only[execOp,hvy]
 generalize a.eval x=vx at hvx
 cases hvx with
 | map hM=>
  obtain⟨m',ms,cl,hA⟩:=Klh hr.heap ho hM
  have m1:=hA.heap
  have m4:=hA.get
  have hf:=hA.findP hK k
  have hc:=hK.check w ms.isEmpty k
  rw[←Kng hK.eq hA.perm hA.apart] at hg
  rw[Kli] at hg
  cases hi:m'.findIdx? fun e=>k==e.1 with
  | none=>
   rw[hi] at hf hg
   simp only[Option.bind_none,Option.getD_none] at hf hg
   refine⟨i3.zero,?_,(Klc hag hz1).vr (by rw[hz];exact hg)⟩
   simp[Instr.lookup,run_underlying u1,MapKept.run_getObj_map m1,hc,hf,zeroValue,typeInfo,e1,e4]
  | some j=>
   rw[hi] at hf hg
   have hj:j<m'.length:=(lFi.1 hi).1
   obtain⟨e,f1,f2,f3⟩:=m4 j _ (gGe hj)
   simp only[Option.bind_some,f1,List.getElem?_eq_getElem hj,Option.map_some,Option.getD_some] at hf hg
   refine⟨e.val,?_,f3.vr hg⟩
   simp[Instr.lookup,run_underlying u1,MapKept.run_getObj_map m1,hc,hf]
theorem Kni(hΓ:TOK P Γ){t kt et:TypeId}{i1:TI}{x y z:Operand}{id:Nat}{st:Option (List (Value×List D)×List Nat×Nat)}(m:List (K×V))(k:K)(v:V){gv:G}(h1:Γ t=some i1)(h1':i1.desc=.map kt et)(hK:KeyP P kt (kD kenc))(hkv:∀ k,(kenc k).all D.isVal=true)
  (hx:fr.ev x=some (.map id)) (ho:hp[id]?=some (mObS (kD kenc) agg enc m st)) (hy:fr.ev y=some (kG kenc k)) (hv:fr.ev z=some gv) (hg:dG agg (enc v)=some gv) :
  OpU P N ⟨none,.mapUpdate t x y z,ty,pos,after,gd⟩ fr hp (hp.set id (mOb (kD kenc) agg enc (mSet m k v))):=fun Z w M a hr=>by
 obtain⟨u1,_⟩:=hΓ t _ h1
 rw[h1'] at u1
 have hvx:=hr.ev hx
 have hvz:=hr.ev hv
 have hvy:=Knd hkv (hr.ev hy)
 simp only[execOp,hvy]
 generalize a.eval x=vx at hvx
 generalize a.eval z=vz at hvz
 have hdz:DV w (ownZ Z hp M) agg (enc v) vz:=hvz.dv hg
 cases hvx with
 | map hM=>
  rename_i b c
  obtain⟨m',ms,cl,hA⟩:=Klh hr.heap ho hM
  have m1:=hA.heap
  have m2:=hA.size
  have m3:=hA.born
  have m4:=hA.get
  have hf:=hA.findP hK k
  have hc:=hK.check w false k
  cases hi:m'.findIdx? fun e=>k==e.1 with
  | none=>
   rw[hi] at hf
   simp only[Option.bind_none] at hf
   have hset:mSet m k v=mIns k v m:=by unfold mSet;rw[Kll hA.perm k hi]
   have hnk:∀ e∈m',kD kenc e.1≠kD kenc k:=fun e he hkv'=>by
    exact hK.ne k e.1 (List.findIdx?_eq_none_iff.1 hi e he) hkv'
   rw[hset]
   obtain⟨r1,r2⟩:=Kle (o':=mOb (kD kenc) agg enc (mIns k v m)) (ob':=.map (ms.push { key:=kD kenc k,val:=vz,born:=cl }) (cl+1)) hr.heap ho rfl hM (fun w' hst hh=>by
    refine⟨_,_,(m'++[(k,v)]).map fun e=>(kD kenc e.1,enc e.2),hh,?_,?_,fun raw h=>(by cases h),by simp[m2],⟨fun i j e e' hi hj hb=>?_,fun i e hi=>?_⟩,fun j k' ds hj=>?_⟩
    ·exact((hA.perm.append_right _).trans (Kkx k v m).symm).map _
    ·rw[List.pairwise_map,List.pairwise_append]
     exact⟨hA.apart,List.pairwise_singleton _ _,fun e he e' he'=>by obtain rfl:=List.mem_singleton.1 he';exact hnk e he⟩
    ·rw[Array.getElem?_push] at hi hj
     split at hi<;>split at hj
     ·omega
     ·cases hi;have:=m3.2 j e' hj;simp only at hb;omega
     ·cases hj;have:=m3.2 i e hi;simp only at hb;omega
     ·exact m3.1 i j e e' hi hj hb
    ·rw[Array.getElem?_push] at hi
     split at hi
     ·cases hi;simp
     ·have:=m3.2 i e hi;omega
    ·simp only[List.map_append,List.map_cons,List.map_nil] at hj
     rcases Krk hj with⟨hl,h'⟩ | ⟨hl,h'⟩
     ·rw[gMp] at h'
      obtain⟨x,hx,he⟩:=oMs.1 h'
      simp only[Prod.mk.injEq] at he
      obtain⟨rfl,rfl⟩:=he
      obtain⟨e,e1,e2,e3⟩:=m4 j x hx
      have hlt:=(aEs.1 e1).1
      exact⟨e,by rw[Array.getElem?_push_lt hlt,←Array.getElem?_eq_getElem hlt];exact e1,e2,e3.step hst⟩
     ·simp only[Prod.mk.injEq] at h'
      obtain⟨rfl,rfl⟩:=h'
      refine⟨{ key:=kD kenc k,val:=vz,born:=cl },?_,rfl,hdz.step hst⟩
      rw[hl,List.length_map,←m2]
      simp) rfl
   refine⟨_,M,?_,r1,r2,⟨Nat.le_of_eq hr.heap.len.symm,fun _ _=>rfl⟩⟩
   simp[Instr.mapUpdate,run_underlying u1,MapKept.run_getObj_map m1,hc,hf,MapKept.run_setObj_map _ m1]
  | some j=>
   rw[hi] at hf
   have hj:j<m'.length:=(lFi.1 hi).1
   have hkj:(k==(m'[j]).1)=true:=(lFi.1 hi).2.1
   have hkj':=hK.eq _ _ hkj
   obtain⟨e,f1,f2,f3⟩:=m4 j _ (gGe hj)
   simp only[Option.bind_some,f1,Option.map_some] at hf
   obtain⟨i,hi2⟩:∃ i,(m.findIdx? fun e=>k==e.1)=some i:=by
    cases h0:m.findIdx? fun e=>k==e.1 with
    | some i=>exact⟨i,rfl⟩
    | none=>rw[Kll hA.perm.symm k h0] at hi;cases hi
   have hil:i<m.length:=(lFi.1 hi2).1
   have hki:=hK.eq _ _ (lFi.1 hi2).2.1
   have hset:mSet m k v=m.set i (k,v):=by unfold mSet;rw[hi2]
   have hsame:m'[j]=m[i]:=hA.apart.one (List.getElem_mem hj) (hA.perm.mem_iff.2 (List.getElem_mem hil)) (by rw[←hkj',←hki])
   have hperm:(m'.set j (k,v)).Perm (m.set i (k,v)):=by
    obtain⟨a1,a2⟩:=Klk (k,v) (gGe hj)
    obtain⟨b1,b2⟩:=Klk (k,v) (gGe hil)
    rw[hsame] at a2
    exact a1.trans ((((a2.symm.trans hA.perm).trans b2).cons_inv.cons _).trans b1.symm)
   rw[hset]
   have hjs:=(aEs.1 f1).1
   have hbits:Instr.sameBits 10000 e.key (kD kenc k)=true:=by rw[f2];exact hK.bits k _ hkj
   obtain⟨r1,r2⟩:=Kle (o':=mOb (kD kenc) agg enc (m.set i (k,v))) (ob':=.map (ms.modify j fun e=>{ e with key:=kD kenc k,val:=vz }) cl) hr.heap ho rfl hM (fun w' hst hh=>by
    have hget:∀ (i:Nat) (e':MapEntry),(ms.modify j fun e=>{ e with key:=kD kenc k,val:=vz })[i]?=some e'→∃ e0,ms[i]?=some e0∧e'.born=e0.born:=fun i e' h=>by
     rw[Array.getElem?_modify] at h
     split at h
     ·obtain⟨e0,h0,rfl⟩:=oMs.1 h
      exact⟨e0,h0,rfl⟩
     ·exact⟨e',h,rfl⟩
    refine⟨_,_,(m'.set j (k,v)).map fun e=>(kD kenc e.1,enc e.2),hh,hperm.map _,?_,fun raw h=>(by cases h),by simp[m2],⟨fun i i' e1 e2 h1 h2 hb=>?_,fun i e1 h1=>?_⟩,fun i k' ds h=>?_⟩
    ·have hkeys:(m'.set j (k,v)).map (fun e=>kD kenc e.1)=m'.map (fun e=>kD kenc e.1):=by
      rw[List.map_set]
      apply List.ext_getElem?
      intro n
      rw[List.getElem?_set]
      split
      ·rename_i hn
       subst hn
       simp[hj,hkj']
      ·rfl
     rw[List.pairwise_map]
     have:=List.pairwise_map (f:=fun e:K×V=>kD kenc e.1) (R:=fun x y=>x≠y) (l:=m'.set j (k,v))
     rw[hkeys,List.pairwise_map] at this
     exact this.1 hA.apart
    ·obtain⟨a1,b1,c1⟩:=hget i e1 h1
     obtain⟨a2,b2,c2⟩:=hget i' e2 h2
     exact m3.1 i i' a1 a2 b1 b2 (by rw[←c1,←c2];exact hb)
    ·obtain⟨a1,b1,c1⟩:=hget i e1 h1
     rw[c1];exact m3.2 i a1 b1
    ·rw[gMp] at h
     obtain⟨x,hx,he⟩:=oMs.1 h
     simp only[Prod.mk.injEq] at he
     obtain⟨rfl,rfl⟩:=he
     by_cases hij:j=i
     ·subst hij
      rw[gSs hj] at hx
      cases hx
      exact⟨{ e with key:=kD kenc k,val:=vz },by rw[Array.getElem?_modify,if_pos rfl,f1];rfl,rfl,hdz.step hst⟩
     ·rw[gSn hij] at hx
      obtain⟨e1,g1,g2,g3⟩:=m4 i x hx
      exact⟨e1,by rw[Array.getElem?_modify,if_neg hij];exact g1,g2,g3.step hst⟩) rfl
   refine⟨_,M,?_,r1,r2,⟨Nat.le_of_eq hr.heap.len.symm,fun _ _=>rfl⟩⟩
   simp[Instr.mapUpdate,run_underlying u1,MapKept.run_getObj_map m1,hc,hf,MapKept.run_setObj_map _ m1,f1,Instr.keyThatStays,hbits]
end
end Go.Gk
namespace Go.Gk
def rangeLM{α σ ρ:Type}(f:α→σ→Option (LS σ ρ)):List α→σ→Option (LS σ ρ)
 | [],s=>some (.go s)
 | x :: l,s=>match f x s with
  | some (.go s')=>rangeLM f l s'
  | some (.out r)=>some (.out r)
  | none=>none
noncomputable def rangePM {α σ ρ:Type} (f:α→σ→Option (LS σ ρ)) (m:List α) (s:σ):Option (LS σ ρ):=
 open Classical in if h:∃ r,∀ m':List α,m'.Perm m→rangeLM f m' s=some r then some (Classical.choose h) else none
theorem Knj{α σ ρ:Type}{f:α→σ→Option (LS σ ρ)}{m:List α}{s:σ}{r:LS σ ρ}:rangePM f m s=some r ↔ ∀ m':List α,m'.Perm m→rangeLM f m' s=some r:=by
 unfold rangePM
 constructor
 ·intro h
  split at h
  ·rename_i hx
   cases h
   exact Classical.choose_spec hx
  cases h
 intro h
 have hx:∃ r,∀ m':List α,m'.Perm m→rangeLM f m' s=some r:=⟨r,h⟩
 rw[dif_pos hx]
 have h1:=Classical.choose_spec hx m (.refl _)
 rw[h m (.refl _)] at h1
 exact h1.symm
def asc(s:List UInt8):Bool:=s.all fun b=>decide (b.toNat<128)
theorem Knk(s:List UInt8)(i:Nat)(x:UInt8)(hx:s[i]?=some x)(h:x.toNat<128):Utf8.decode ⟨s.toArray⟩ i=(x.toNat,1):=by
 have e:(⟨s.toArray⟩:ByteArray).get! i=x:=by
  obtain⟨hi,e⟩:=gEs.1 hx
  show(s.toArray)[i]! = x
  simp[hx]
 unfold Utf8.decode
 simp only[Nat.add_zero,e]
 rw[if_pos h]
section
variable{P:Program}{Γ:TypeId→Option TI}{F N:Nat}{Q:GPost}{fr fr':Fr}{hp hp':List Ob}{ks:List Kt}
variable{ops:Array Oper}{rest:List Oper}{g:G}
variable{d:Tmp}{op:Op}{ty:TypeId}{pos:String}{after:Array Edge}{gd:Option (Nat×Bool)}
variable{K V:Type}[BEq K][KLt K]
theorem Knl{σ ρ:Type}{c:Code}{f:K×V→σ→Option (LS σ ρ)}{s0:σ}{r:LS σ ρ}{m m':List (K×V)}{bs:List Nat}(h:rangePM f m s0=some r)(hpm:m'.Perm m)(hl:bs.length=m'.length)(hn:bs.Nodup)
  (st:σ→Fr) (ob:List Nat→σ→List Ob) (hm:MidP F (st s0) (ob [] s0) fr hp)
  (round:∀ (seen:List Nat) (s:σ),((∀ b∈bs,b∈seen)→r=.go s)→(∀ (j:Nat) (y:K×V) (b:Nat),m'[j]?=some y→bs[j]?=some b→b ∉ seen→∃ r',f y s=some r'∧∀ v,r'=.out v→r=.out v)→
   St.holds P F N Q (.code c (.mid (fun fr' hp'=>∃ (j:Nat) (y:K×V) (b:Nat) (s':σ),m'[j]?=some y∧bs[j]?=some b∧b ∉ seen∧f y s=some (.go s')∧MidP F (st s') (ob (seen++[b]) s') fr' hp') :: ks)) (st s) (ob seen s)) :
  St.holds P F N Q (.code (.loop c) ks) fr hp:=by
 have hz:(m'.zip bs).map (·.2)=bs:=List.map_snd_zip (by omega)
 have hz1:(m'.zip bs).map (·.1)=m':=List.map_fst_zip (by omega)
 refine Kgn hm ?_
 refine Kpy (fun n fr hp=>∃ seen s,n=(remL (m'.zip bs) seen).length∧(∀ l,l.Perm (remL (m'.zip bs) seen)→rangeLM f l s=some r)∧fr=st s∧hp=ob seen s) _ ⟨[],s0,rfl,fun l hl'=>?_,rfl,rfl⟩ ?_
 ·refine Knj.1 h l (hl'.trans ?_)
  have:remL (m'.zip bs) []=m':=by
   unfold remL
   rw[List.filter_eq_self.2 fun e _=>by simp,hz1]
  rw[this]
  exact hpm
 rintro n fr hp ⟨seen,s,rfl,hI,rfl,rfl⟩
 have hstep:∀ (j:Nat) (y:K×V) (b:Nat),m'[j]?=some y→bs[j]?=some b→b ∉ seen→∃ r',f y s=some r'∧(∀ v,r'=.out v→r=.out v)∧(∀ s',r'=.go s'→∀ l,l.Perm (remL (m'.zip bs) (seen++[b]))→rangeLM f l s'=some r)∧(remL (m'.zip bs) (seen++[b])).length<(remL (m'.zip bs) seen).length:=fun j y b hj hb hns=>by
  have hp:=Klq hns (l:=m'.zip bs) (j:=j) (by rw[List.getElem?_zip_eq_some];exact⟨hj,hb⟩) (by rw[hz];exact hn)
  have hlt:(remL (m'.zip bs) (seen++[b])).length<(remL (m'.zip bs) seen).length:=by have:=hp.length_eq;simp at this;omega
  have h1:=hI _ hp.symm
  simp only[rangeLM] at h1
  cases hs:f y s with
  | none=>rw[hs] at h1;cases h1
  | some r'=>
   rw[hs] at h1
   refine⟨r',rfl,fun v hv=>?_,fun s' hs' l hl'=>?_,hlt⟩
   ·subst hv
    exact(oSi h1).symm
   ·subst hs'
    have h2:=hI (y :: l) ((hl'.cons y).trans hp.symm)
    simp only[rangeLM,hs] at h2
    exact h2
 refine Kpp (round seen s (fun hd=>?_) fun j y b hj hb hns=>let ⟨s',h1,h2,_⟩:=hstep j y b hj hb hns;⟨s',h1,h2⟩) fun e fr' hp' h'=>?_
 ·have h0:remL (m'.zip bs) seen=[]:=Klo fun e he=>hd e.2 (by rw[←hz];exact List.mem_map.2 ⟨e,he,rfl⟩)
  have:=hI [] (by rw[h0])
  cases this
  rfl
 ·cases e with
  | normal=>
   obtain⟨j,y,b,s',hj,hb,hns,hs,hm'⟩:=h'
   obtain⟨s2,h1,_,h2,h3⟩:=hstep j y b hj hb hns
   rw[hs] at h1
   cases h1
   obtain⟨ex,e1,e2,e3⟩:=hm'.ex
   exact⟨_,st s',ob (seen++[b]) s',ex,h3,⟨seen++[b],s',rfl,h2 s' rfl,rfl,rfl⟩,e1,e2,e3⟩
  | _=>exact h'
theorem Knm(hΓ:TOK P Γ){t:TypeId}{i1:TI}{x:Operand}(s:List UInt8)(h1:Γ t=some i1)(h1':i1.desc=.string)(hx:fr.ev x=some (.d (.v (.string ⟨s.toArray⟩))))(hd:Nat.blt d N=true)(hF:F≤hp.length)
  (k:EO P F N ops rest Q ((d,.ptr hp.length 0) :: fr) (hp++[.siter s 0])) :
  EO P F N ops (⟨some d,.range t x,ty,pos,after,none⟩ :: rest) Q fr hp:=by
 intro Z w0 O0 M0 w M a hs ha hr
 refine wpList_plain rfl fun K' hK'=>?_
 obtain⟨u1,_⟩:=hΓ t _ h1
 rw[h1'] at u1
 unfold Oper.wp
 simp only[execOp,hr.ev_v hx]
 obtain⟨q1,q2,q3⟩:=Kld hr.heap (.siter s 0) (.stringIter ⟨s.toArray⟩ 0) 0 (fun w' O' hst hh=>hh)
 have hrun2:(do let v←Instr.range t (.string ⟨s.toArray⟩);pure (Next.value v):Sem Next).run P w=.ok (.value (.pointer (some ⟨w.heap.size,0,none⟩))) (w.alloc (.stringIter ⟨s.toArray⟩ 0)):=by
  simp[Instr.range,run_underlying u1,newObj,Sem.run]
 rw[hrun2,Oper.upon_value]
 exact hK' _ _ (k Z w0 O0 M0 _ _ _ (hs.trans q2) (ha.trans q3 hF) ((hr.later q1 q2 q3).put (nblt.1 hd) (.ptr (c:=0) (by rw[←hr.heap.len];simp))))
theorem Knn{x:Operand}{iid:Nat}(s:List UInt8)(i:Nat)(hp1:List Ob)(hx:fr.ev x=some (.ptr iid 0))(ho:hp[iid]?=some (.siter s i))(hend:hp.set iid .dead=hp1)(hd:Nat.blt d N=true)(hF:F≤hp.length)(hasc:asc s=true)
  (k0:s[i]?=none→EO P F N ops rest Q ((d,.tup [.d (.v (.bool false))]) :: fr) hp1)
  (k1:∀ x:UInt8,s[i]?=some x→EO P F N ops rest Q ((d,.tup [.d (.v (.bool true)),.d (.v (.int .i64 (i:Int))),.d (.v (.int .i32 (x.toNat:Int)))]) :: fr) (hp.set iid (.siter s (i+1)))) :
  EO P F N ops (⟨some d,.next x true,ty,pos,after,none⟩ :: rest) Q fr hp:=by
 intro Z w0 O0 M0 w M a hs ha hr
 refine wpList_plain rfl fun K' hK'=>?_
 have hvx:=hr.ev hx
 unfold Oper.wp
 simp only[execOp]
 generalize a.eval x=vx at hvx
 cases hvx with
 | ptr hM=>
  rename_i b c
  have hit:w.heap[b]?=some (.stringIter ⟨s.toArray⟩ i):=hr.heap.obj iid _ _ ho hM
  have hsz:(⟨s.toArray⟩:ByteArray).size=s.length:=by
   show s.toArray.size=s.length
   simp
  have hag:Agr hp.length M M:=⟨Nat.le_of_eq hr.heap.len.symm,fun _ _=>rfl⟩
  cases hi:s[i]? with
  | none=>
   have hlt:¬ i<s.length:=by simpa using hi
   have hrun2:(do let v←Instr.next (.pointer (some ⟨b,0,none⟩)) true ty;pure (Next.value v):Sem Next).run P w=.ok (.value (.tuple #[.bool false])) w:=by
    simp[Instr.next,getObj,Sem.run,hit,hsz,hlt]
   rw[hrun2,Oper.upon_value]
   obtain⟨r3,r4⟩:=Kls hr.heap iid
   rw[hend] at r3 r4
   exact hK' _ _ (k0 hi Z w0 O0 M0 _ _ _ (hs.trans r4) ha ((hr.later r3 r4 hag).put (nblt.1 hd) (.tup rfl fun j g v hg hv=>by
    match j with
    | 0=>cases hg;cases hv;exact .d (.v _ rfl)
    | j+1=>cases hg)))
  | some y=>
   have hlt:i<s.length:=(gEs.1 hi).1
   have hy:y.toNat<128:=by
    have:=lAe.1 hasc y (mOg hi)
    exact of_decide_eq_true this
   have hdec:=Knk s i y hi hy
   obtain⟨r1,r2⟩:=Kle (o':=.siter s (i+1)) (ob':=.stringIter ⟨s.toArray⟩ (i+1)) hr.heap ho rfl hM (fun w' hst hh=>hh) rfl
   have hrun2:(do let v←Instr.next (.pointer (some ⟨b,0,none⟩)) true ty;pure (Next.value v):Sem Next).run P w=.ok (.value (.tuple #[.bool true,.int .i64 (i:Int),.int .i32 (y.toNat:Int)])) { w with heap:=w.heap.setIfInBounds b (.stringIter ⟨s.toArray⟩ (i+1)) }:=by
    have hg:(getObj b).run P w=.ok (.stringIter ⟨s.toArray⟩ i) w:=by simp[getObj,Sem.run,hit]
    have hsO:∀ o,(setObj b o).run P w=.ok () { w with heap:=w.heap.setIfInBounds b o }:=fun o=>by simp[setObj,Sem.run,hit]
    simp[Instr.next,hg,hsO,hsz,hlt,hdec,goInt]
   rw[hrun2,Oper.upon_value]
   exact hK' _ _ (k1 y hi Z w0 O0 M0 _ _ _ (hs.trans r2) ha ((hr.later r1 r2 hag).put (nblt.1 hd) (.tup rfl fun j g v hg hv=>by
    match j with
    | 0=>cases hg;cases hv;exact .d (.v _ rfl)
    | 1=>cases hg;cases hv;exact .d (.v _ rfl)
    | 2=>cases hg;cases hv;exact .d (.v _ rfl)
    | j+3=>cases hg)))
theorem Kno{σ ρ:Type}{c:Code}{f:Nat→UInt8→σ→Option (LS σ ρ)}{s0:σ}{r:LS σ ρ}(l:List UInt8)(h:rangeM f 0 l s0=some r)(st:Nat→σ→Fr)(ob:Nat→σ→List Ob)(hm:MidP F (st 0 s0) (ob 0 s0) fr hp)
  (round:∀ (i:Nat) (s:σ),(l[i]?=none→r=.go s)→(∀ x,l[i]?=some x→∃ r',f i x s=some r'∧∀ v,r'=.out v→r=.out v)→
   St.holds P F N Q (.code c (.mid (fun fr' hp'=>∃ (x:UInt8) (s':σ),l[i]?=some x∧f i x s=some (.go s')∧MidP F (st (i+1) s') (ob (i+1) s') fr' hp') :: ks)) (st i s) (ob i s)) :
  St.holds P F N Q (.code (.loop c) ks) fr hp:=by
 refine Kgn hm ?_
 refine Kpy (fun n fr hp=>∃ i s,n=l.length - i∧i≤l.length∧rangeM f i (l.drop i) s=some r∧fr=st i s∧hp=ob i s) _ ⟨0,s0,rfl,Nat.zero_le _,h,rfl,rfl⟩ ?_
 rintro n fr hp ⟨i,s,rfl,hi,hI,rfl,rfl⟩
 have hstep:∀ x,l[i]?=some x→∃ r',f i x s=some r'∧(∀ v,r'=.out v→r=.out v)∧(∀ s',r'=.go s'→rangeM f (i+1) (l.drop (i+1)) s'=some r)∧i<l.length:=fun x hx=>by
  obtain⟨hlt,rfl⟩:=gEs.1 hx
  rw[List.drop_eq_getElem_cons hlt] at hI
  simp only[rangeM] at hI
  cases hs:f i l[i] s with
  | none=>rw[hs] at hI;cases hI
  | some r'=>
   rw[hs] at hI
   refine⟨r',rfl,fun v hv=>?_,fun s' hs'=>?_,hlt⟩
   ·subst hv
    exact(oSi hI).symm
   ·subst hs'
    exact hI
 refine Kpp (round i s (fun hd=>?_) fun x hx=>let ⟨r',h1,h2,_⟩:=hstep x hx;⟨r',h1,h2⟩) fun e fr' hp' h'=>?_
 ·have hge:l.length≤i:=by simpa using hd
  rw[List.drop_of_length_le hge] at hI
  exact(oSi hI).symm
 ·cases e with
  | normal=>
   obtain⟨x,s',hx,hs,hm'⟩:=h'
   obtain⟨r',h1,_,h2,h3⟩:=hstep x hx
   rw[hs] at h1
   cases h1
   obtain⟨ex,e1,e2,e3⟩:=hm'.ex
   exact⟨_,st (i+1) s',ob (i+1) s',ex,by omega,⟨i+1,s',rfl,by omega,h2 s' rfl,rfl,rfl⟩,e1,e2,e3⟩
  | _=>exact h'
end
end Go.Gk
namespace Go.Gk
structure Spec where
 k:Nat
 fr:Fr
 g:G
 ch:Option (Nat×Ob×Ob)
abbrev LogE:=(List (Option G)×Option Ob)×(List (Option G)×Option Ob)
def SpecOk(P:Program)(N:Nat)(ops:Array Oper)(sp:Spec):Prop:=∃ (o:Oper) (d:Tmp),ops[sp.k]?=some o∧o.dst=some d∧d<N∧o.guard=none∧(∀ t g,sp.fr.get t=some g→t∈o.looksAt ops)∧
 match sp.ch with
 | none=>∀ hp,QtE P N o sp.fr hp sp.g hp
 | some (id,x,y)=>∀ hp,hp.all Ob.sole=true→hp[id]?=some x→QtE P N o sp.fr hp sp.g (hp.set id y)
def SpecsOk(P:Program)(N:Nat)(ops:Array Oper):List Spec→Prop
 | []=>True
 | s :: r=>SpecOk P N ops s∧SpecsOk P N ops r
theorem Knp{P:Program}{N:Nat}{ops:Array Oper}:∀ {sps:List Spec},SpecsOk P N ops sps→∀ sp∈sps,SpecOk P N ops sp
 | [],_,sp,h=>by cases h
 | s :: r,⟨h1,h2⟩,sp,h=>by
  rcases List.mem_cons.1 h with rfl | h
  ·exact h1
  exact Knp h2 sp h
def Spec.log(sp:Spec)(fr:Fr)(hp:List Ob):LogE:=match sp.ch with
 | none=>((sp.fr.map fun e=>fr.get e.1,none),(sp.fr.map fun e=>some e.2,none))
 | some (id,x,_)=>((sp.fr.map fun e=>fr.get e.1,hp[id]?),(sp.fr.map fun e=>some e.2,some x))
def findS(sps:List Spec)(k:Nat):Option Spec:=match sps with
 | []=>none
 | s :: r=>bif Nat.beq s.k k then some s else findS r k
def lstC(Γ:TypeId→Option TI)(N:Nat)(hpL:List Ob)(ll:List Nat)(bx:List (Nat×List Nat))(sps:List Spec)(ops:Array Oper)(k:Nat)(fr:Fr)(hp:List Ob)(lg:List LogE)(o:Oper):Option (Fr×List LogE):=match findS sps k with
 | some sp=>match sp.ch,o.dst with
  | none,some d=>some ((d,sp.g) :: fr,lg++[sp.log fr hp])
  | _,_=>none
 | none=>(xstep Γ N hpL ll bx ops k fr o).map fun fr'=>(fr',lg)
def hstC(Γ:TypeId→Option TI)(N:Nat)(hpL:List Ob)(sps:List Spec)(ops:Array Oper)(k:Nat)(fr:Fr)(hp:List Ob)(lg:List LogE)(o:Oper):Option (Fr×List Ob×List LogE):=match findS sps k with
 | some sp=>match sp.ch,o.dst with
  | some (id,_,y),some d=>bif hp.all Ob.sole&&deadB hpL id then some ((d,sp.g) :: fr,hp.set id y,lg++[sp.log fr hp]) else none
  | _,_=>none
 | none=>(hst Γ N hpL ops fr hp o).map fun s=>(s.1,s.2,lg)
def anyC(Γ:TypeId→Option TI)(N:Nat)(hpL:List Ob)(ll hl:List Nat)(bx:List (Nat×List Nat))(sps:List Spec)(ops:Array Oper):Nat→Array Bool→Fr→List Ob→List LogE→Option (List (Fr×List Ob×List LogE))
 | 0,listed,fr,hp,lg=>match Region.ready .any ops listed with
  | []=>some [(fr,hp,lg)]
  | _ :: _=>none
 | fuel+1,listed,fr,hp,lg=>match Region.ready .any ops listed with
  | []=>some [(fr,hp,lg)]
  | i0 :: r=>match (i0 :: r).find? fun i=>!(inL hl i) with
   | some i=>match ops[i]? with
    | none=>none
    | some o=>bif Region.free .any ops listed i then match lstC Γ N hpL ll bx sps ops i fr hp lg o with
     | some s=>anyC Γ N hpL ll hl bx sps ops fuel (listed.setIfInBounds i true) s.1 hp s.2
     | none=>none
     else none
   | none=>ocat (fun i=>match ops[i]? with
     | none=>none
     | some o=>match hstC Γ N hpL sps ops i fr hp lg o with
      | some s=>anyC Γ N hpL ll hl bx sps ops fuel (listed.setIfInBounds i true) s.1 s.2.1 s.2.2
      | none=>none) (i0 :: r)
section
variable{P:Program}{Γ:TypeId→Option TI}{F N:Nat}{Q:GPost}{fr fr':Fr}{hp hp' hpL:List Ob}{ks:List Kt}{ll hl:List Nat}{bx:List (Nat×List Nat)}{sps:List Spec}
variable{ops:Array Oper}
theorem Knq{k:Nat}{sp:Spec}:∀ {sps:List Spec},findS sps k=some sp→sp∈sps∧sp.k=k
 | [],h=>by cases h
 | s :: r,h=>by
  simp only[findS] at h
  cases hb:Nat.beq s.k k with
  | true=>rw[hb] at h;cases h;exact⟨mCs,nEq hb⟩
  | false=>rw[hb] at h;exact⟨mCo _ (Knq h).1,(Knq h).2⟩
theorem Knr{α:Type}{f:Nat→Option (List α)}{i:Nat}{r:List Nat}{l:List α}(h:ocat f (i :: r)=some l)(hf:∀ a,f i=some a→a≠[]):l≠[]:=by
 obtain⟨a,h1,h2⟩:=Kmo h i mCs
 cases a with
 | nil=>exact absurd rfl (hf _ h1)
 | cons x _=>intro e;have:=h2 x mCs;rw[e] at this;cases this
theorem ocat_mem'{α:Type}{f:Nat→Option (List α)}:∀ {r:List Nat} {l:List α},ocat f r=some l→∀ x∈l,∃ i∈r,∃ a,f i=some a∧x∈a
 | [],l,h,x,hx=>by cases h;cases hx
 | j :: r,l,h,x,hx=>by
  unfold ocat at h
  cases hf:f j with
  | none=>rw[hf] at h;cases h
  | some a=>
   rw[hf] at h
   cases hr:ocat f r with
   | none=>rw[hr] at h;cases h
   | some b=>
    rw[hr] at h
    cases h
    rcases List.mem_append.1 hx with hx | hx
    ·exact⟨j,mCs,a,hf,hx⟩
    obtain⟨i,h1,c,h2,h3⟩:=ocat_mem' hr x hx
    exact⟨i,mCo _ h1,c,h2,h3⟩
theorem Kns{k:Nat}{lg:List LogE}{o:Oper}{s:Fr×List LogE}(h:lstC Γ N hpL ll bx sps ops k fr hp lg o=some s):∀ e∈lg,e∈s.2:=by
 unfold lstC at h
 split at h
 ·split at h
  ·cases h;exact fun e he=>List.mem_append_left _ he
  cases h
 obtain⟨fr',_,rfl⟩:=oMs.1 h
 exact fun e he=>he
theorem Knt{k:Nat}{lg:List LogE}{o:Oper}{s:Fr×List Ob×List LogE}(h:hstC Γ N hpL sps ops k fr hp lg o=some s):∀ e∈lg,e∈s.2.2:=by
 unfold hstC at h
 split at h
 ·split at h
  ·rename_i id x y d _ _
   cases hc:(hp.all Ob.sole&&deadB hpL id) with
   | false=>rw[hc] at h;cases h
   | true=>rw[hc] at h;cases h;exact fun e he=>List.mem_append_left _ he
  cases h
 obtain⟨q,_,rfl⟩:=oMs.1 h
 exact fun e he=>he
theorem Knu:∀ (fuel:Nat) (listed:Array Bool) (fr:Fr) (hp:List Ob) (lg:List LogE) (leaves:List (Fr×List Ob×List LogE)),anyC Γ N hpL ll hl bx sps ops fuel listed fr hp lg=some leaves→leaves≠[]∧∀ s∈leaves,∀ e∈lg,e∈s.2.2
 | 0,listed,fr,hp,lg,leaves,h=>by
  unfold anyC at h
  split at h
  ·cases h
   exact⟨by simp,fun s hs=>by obtain rfl:=List.mem_singleton.1 hs;exact fun e he=>he⟩
  cases h
 | fuel+1,listed,fr,hp,lg,leaves,h=>by
  unfold anyC at h
  split at h
  ·cases h
   exact⟨by simp,fun s hs=>by obtain rfl:=List.mem_singleton.1 hs;exact fun e he=>he⟩
  rename_i i0 r hr
  split at h
  ·split at h
   ·cases h
   rename_i i o ho
   cases hf:Region.free .any ops listed _ with
   | false=>rw[hf] at h;cases h
   | true=>
    rw[hf] at h
    simp only[cond_true] at h
    split at h
    ·rename_i s hs
     obtain⟨h1,h2⟩:=Knu fuel _ _ _ _ _ h
     exact⟨h1,fun q hq e he=>h2 q hq e (Kns hs e he)⟩
    cases h
  have key:∀ i a,(match ops[i]? with
    | none=>none
    | some o=>match hstC Γ N hpL sps ops i fr hp lg o with
     | some s=>anyC Γ N hpL ll hl bx sps ops fuel (listed.setIfInBounds i true) s.1 s.2.1 s.2.2
     | none=>none)=some a→a≠[]∧∀ s∈a,∀ e∈lg,e∈s.2.2:=fun i a ha=>by
   split at ha
   ·cases ha
   ·split at ha
    ·rename_i s hs
     obtain⟨h1,h2⟩:=Knu fuel _ _ _ _ _ ha
     exact⟨h1,fun q hq e he=>h2 q hq e (Knt hs e he)⟩
    ·cases ha
  refine⟨Knr h fun a ha=>(key i0 a ha).1,fun s hs=>?_⟩
  obtain⟨i,_,a,ha,hsa⟩:=ocat_mem' h s hs
  exact(key i a ha).2 s hsa
def LogOk(lg:List LogE):Prop:=∀ e∈lg,e.1=e.2
theorem Knv{sp:Spec}{fr:Fr}{hp:List Ob}(h:(sp.log fr hp).1=(sp.log fr hp).2):(∀ t g,sp.fr.get t=some g→fr.get t=some g)∧∀ id x y,sp.ch=some (id,x,y)→hp[id]?=some x:=by
 unfold Spec.log at h
 split at h
 ·rename_i hc
  exact⟨fun t g hg=>Kmy (f:=fun t=>fr.get t) (Prod.mk.inj h).1 hg,fun id x y e=>by rw[hc] at e;cases e⟩
 rename_i id x y hc
 refine⟨fun t g hg=>Kmy (f:=fun t=>fr.get t) (Prod.mk.inj h).1 hg,fun id' x' y' e=>?_⟩
 rw[hc] at e
 cases e
 exact(Prod.mk.inj h).2
theorem Knw(hΓ:TOK P Γ)(hS:∀ sp∈sps,SpecOk P N ops sp){k:Nat}{o:Oper}{lg:List LogE}{s:Fr×List LogE}(ho:ops[k]?=some o)(h:lstC Γ N hpL ll bx sps ops k fr hp lg o=some s)(hlg:LogOk s.2):∃ x g,YE P N hpL (inL ll) (inL hl) (inL []) ops k o fr.get hp x g hp∧s.1.get=FF.put fr.get x g:=by
 unfold lstC at h
 split at h
 ·rename_i sp hsp
  obtain⟨hm,rfl⟩:=Knq hsp
  split at h
  ·rename_i d hc hd
   cases h
   obtain⟨o',d',h1,h2,h3,h4,h5,h6⟩:=hS sp hm
   rw[ho] at h1
   cases h1
   rw[hd] at h2
   cases h2
   rw[hc] at h6
   obtain⟨e1,_⟩:=Knv (hlg _ (List.mem_append_right _ mCs))
   refine⟨some d,sp.g,.inl ⟨⟨fun q hq=>by rw[hd] at hq;cases hq;exact h3,.inr ⟨.inl h4,sp.fr,fun t g' ht=>⟨h5 t g' ht,e1 t g' ht⟩,fun hp _=>h6 hp⟩⟩,hd.symm,rfl,Kmq⟩,?_⟩
   rw[Fr.get_cons]
   rfl
  cases h
 obtain⟨fr',hx,rfl⟩:=oMs.1 h
 exact Kmr hΓ hx
theorem Knx(hΓ:TOK P Γ)(hS:∀ sp∈sps,SpecOk P N ops sp){k:Nat}{o:Oper}{lg:List LogE}{s:Fr×List Ob×List LogE}(hk:inL hl k=true)(ho:ops[k]?=some o)(h:hstC Γ N hpL sps ops k fr hp lg o=some s)(hlg:LogOk s.2.2) :
  (∃ x g,YE P N hpL (inL ll) (inL hl) (inL []) ops k o fr.get hp x g s.2.1∧s.1.get=FF.put fr.get x g)∧(Stays hpL hp→Stays hpL s.2.1):=by
 unfold hstC at h
 split at h
 ·rename_i sp hsp
  obtain⟨hm,rfl⟩:=Knq hsp
  split at h
  ·rename_i id x y d hc hd
   cases hq:(hp.all Ob.sole&&deadB hpL id) with
   | false=>rw[hq] at h;cases h
   | true=>
    rw[hq] at h
    cases h
    simp only[Bool.and_eq_true] at hq
    obtain⟨o',d',h1,h2,h3,h4,h5,h6⟩:=hS sp hm
    rw[ho] at h1
    cases h1
    rw[hd] at h2
    cases h2
    rw[hc] at h6
    obtain⟨e1,e2⟩:=Knv (hlg _ (List.mem_append_right _ mCs))
    refine⟨⟨some d,sp.g,.inr (.inr (.inl ⟨hk,⟨fun q hq=>by rw[hd] at hq;cases hq;exact h3,.inl h4,by simp,sp.fr,fun t g' ht=>⟨h5 t g' ht,e1 t g' ht⟩,h6 hp hq.1 (e2 id x y hc)⟩,hd.symm,Kmq,fun _=>Kmt hq.2⟩)),?_⟩,Kmt hq.2⟩
    rw[Fr.get_cons]
    rfl
  ·cases h
 ·obtain⟨q,hx,rfl⟩:=oMs.1 h
  exact Kmv hΓ hk hx
theorem Kny(hΓ:TOK P Γ)(hS:∀ sp∈sps,SpecOk P N ops sp){QF:FF→List Ob→Prop}:∀ (fuel:Nat) (listed:Array Bool) (fr:Fr) (hp:List Ob) (lg:List LogE) (leaves:List (Fr×List Ob×List LogE)),listed.size=ops.size→Shut .any ops listed→Stays hpL hp→anyC Γ N hpL ll hl bx sps ops fuel listed fr hp lg=some leaves→(∀ s∈leaves,LogOk s.2.2∧QF s.1.get s.2.1)→
  anyE P N hpL (inL ll) (inL hl) (inL []) .any ops QF fuel listed fr.get hp
 | 0,listed,fr,hp,lg,leaves,hsz,hsh,hst,h,hq=>by
  unfold anyC at h
  split at h
  ·rename_i hr
   cases h
   exact⟨hr,(hq _ mCs).2⟩
  ·cases h
 | fuel+1,listed,fr,hp,lg,leaves,hsz,hsh,hst,h,hq=>by
  unfold anyC at h
  split at h
  ·rename_i hr
   cases h
   exact⟨fun _=>(hq _ mCs).2,fun i hi=>by rw[hr] at hi;cases hi⟩
  ·rename_i i0 r hr
   split at h
   ·rename_i i hfi
    have hmem:i∈Region.ready .any ops listed:=by rw[hr];exact List.mem_of_find?_eq_some hfi
    have hlight:inL hl i=false:=by have:=List.find?_some hfi;simpa using this
    split at h
    ·cases h
    ·rename_i o ho
     cases hf:Region.free .any ops listed i with
     | false=>rw[hf] at h;cases h
     | true=>
      rw[hf] at h
      simp only[cond_true] at h
      split at h
      ·rename_i s hx
       obtain⟨hne,hlg⟩:=Knu _ _ _ _ _ _ h
       have hok:LogOk s.2:=by
        obtain⟨q,hq'⟩:=List.exists_mem_of_ne_nil _ hne
        exact fun e he=>(hq q hq').1 e (hlg q hq' e he)
       obtain⟨x,g,hy,hg⟩:=Knw (P:=P) (hl:=hl) hΓ hS ho hx hok
       have hrec:=Kny hΓ hS fuel (listed.setIfInBounds i true) s.1 hp s.2 leaves (by simpa using hsz) (Kip hsh hmem) hst h hq
       rw[hg] at hrec
       exact Kit Kmw (fun hv=>by rw[hlight] at hv;cases hv) ho fuel listed fr.get hp hp hsz hsh (fun hv=>by rw[hlight] at hv;cases hv) (fun _=>hst) (Region.free_spec ho hf) hmem hy hrec
      ·cases h
   ·rename_i hnone
    refine⟨(fun h0=>by rw[hr] at h0;cases h0),fun i hi=>?_⟩
    rw[hr] at hi
    obtain⟨a,ha,hsub⟩:=Kmo h i hi
    have hheavy:inL hl i=true:=by
     have:=List.find?_eq_none.1 hnone i hi
     simpa using this
    have hmem:i∈Region.ready .any ops listed:=by rw[hr];exact hi
    unfold gOpE
    split at ha
    ·cases ha
    ·rename_i o ho
     split at ha
     ·rename_i s hs
      obtain⟨hne,hlg⟩:=Knu _ _ _ _ _ _ ha
      have hok:LogOk s.2.2:=by
       obtain⟨q,hq'⟩:=List.exists_mem_of_ne_nil _ hne
       exact fun e he=>(hq q (hsub q hq')).1 e (hlg q hq' e he)
      obtain⟨⟨x,g,hy,hg⟩,hss⟩:=Knx (P:=P) (ll:=ll) hΓ hS hheavy ho hs hok
      simp only[ho]
      have hrec:=Kny hΓ hS fuel (listed.setIfInBounds i true) s.1 s.2.1 s.2.2 a (by simpa using hsz) (Kip hsh hmem) (hss hst) ha (fun q hq'=>hq q (hsub q hq'))
      rw[hg] at hrec
      exact⟨x,g,s.2.1,hy,fun _=>hst,hrec⟩
     ·cases ha
theorem Knz(hΓ:TOK P Γ){id:Nat}{l:List Oper}(bx:List (Nat×List Nat))(sps:List Spec)(ps:List (List Nat×List Nat)){fr0:Fr}{hp0:List Ob}(hm:P.follows .mixedOrders=true)(hR:(anyC Γ N hpL ll hl bx sps l.toArray l.length (Array.replicate l.length false) fr hp []).map (fun ls=>leavesN hp.length (fr0.map (·.1)) (ls.map fun s=>(s.1,s.2.1)) ps)=some (List.replicate ps.length (true,fr0.map (fun e=>some e.2),hp0)))(hG:(anyC Γ N hpL ll hl bx sps l.toArray l.length (Array.replicate l.length false) fr hp []).map (fun ls=>ls.map fun s=>s.2.2.map (·.1))=(anyC Γ N hpL ll hl bx sps l.toArray l.length (Array.replicate l.length false) fr hp []).map (fun ls=>ls.map fun s=>s.2.2.map (·.2)))(hS:∀ sp∈sps,SpecOk P N l.toArray sp)(hst:StaysL hpL hp)(hF:F≤hp.length)(hk:Q .normal fr0 hp0):EW P F N (.region id l.toArray true) Q fr hp:=by
 obtain⟨leaves,hR,hL0⟩:=oMs.1 hR
 rw[hR] at hG
 have hlog:∀ s∈leaves,LogOk s.2.2:=fun s hs=>by
  have hG':=oSi hG
  have h1:s.2.2.map (·.1)=s.2.2.map (·.2):=by
   obtain⟨j,hj⟩:=List.getElem?_of_mem hs
   have:=congrArg (fun l=>l[j]?) hG'
   simp only[List.getElem?_map,hj,Option.map_some,Option.some.injEq] at this
   exact this
  intro e he
  obtain⟨j,hj⟩:=List.getElem?_of_mem he
  have:=congrArg (fun l=>l[j]?) h1
  simp only[List.getElem?_map,hj,Option.map_some,Option.some.injEq] at this
  exact this
 have hL:=Kmx (n0:=hp.length) (fr0:=fr0) (hp0:=hp0) (ss:=leaves.map fun s=>(s.1,s.2.1)) (ps:=ps) fun x hx=>by
  rw[hL0] at hx
  exact List.eq_of_mem_replicate hx
 intro Z w0 O0 M0 w M a hs ha hr
 have hdr:Stp w (own hp M) w.drew (own hp M):=.mk' (Nat.le_refl _) (fun _ _ _=>rfl) (fun _ _ h=>h) rfl rfl rfl rfl (fun g=>g) fun _ _ _=>rfl
 have hr':RelH Z hp M w.drew:=by
  refine⟨hr.heap.len,fun i o m h1 h2=>?_,hr.heap.apart,hr.heap.old,hr.heap.amb_stp hdr,hr.heap.inj,hr.heap.bags.mono rfl (Nat.le_refl _) (fun _ _ h=>h) (fun _ _ _ _ h=>h)⟩
  have:=hr.heap.obj i o m h1 h2
  exact this.move (k:=M.l.length) (Kpj Z hdr) (fun _ _=>rfl) this.bel (fun _ _ _ _=>rfl) (fun _ _ _ _=>⟨rfl,fun _ _ _=>rfl⟩)
 have hany:=Kny (P:=P) (N:=N) (ops:=l.toArray) (hpL:=hpL) (ll:=ll) (hl:=hl) (bx:=bx) (sps:=sps) hΓ hS (QF:=fun F hp=>∃ fr':Fr,fr'.get=F∧(fr',hp)∈leaves.map fun s=>(s.1,s.2.1)) l.length (Array.replicate l.toArray.size false) fr hp [] leaves (by simp) (fun k o h=>by
   rcases Nat.lt_or_ge k l.toArray.size with h' | h'
   ·simp at h' h;simp[h'] at h
   simp at h' h;simp[h'] at h) (Kjj hst) (by simpa using hR) fun s hs=>⟨hlog s hs,s.1,rfl,List.mem_map.2 ⟨s,hs,rfl⟩⟩
 refine wp_region_any hm (Kix (Z:=Z) (F0:=hp.length) (M0:=M) (w0:=w0) (O0:=O0) (N:=N) (hpL:=hpL) (light:=inL ll) (heavy:=inL hl) (brk:=inL []) (QF:=fun F hp=>∃ fr':Fr,fr'.get=F∧(fr',hp)∈leaves.map fun s=>(s.1,s.2.1)) Kmw ?_ _ _ fr.get hp M a w.drew [] (RelF.zB0 ⟨hr',fun t g hg=>let ⟨v,e1,e2⟩:=hr.fr t g hg;⟨v,e1,e2.step (Kpj Z hdr) (fun _ _=>rfl)⟩,hr.size,hr.defers⟩) ⟨by simp,fun i j _ hi _=>(by rw[Kiv] at hi;cases hi),fun p hp=>by cases hp⟩ (by simp) (fun k o hk=>by rw[Kiv] at hk;cases hk) (hs.trans hdr) ⟨Nat.le_of_eq hr.heap.len.symm,fun _ _=>rfl⟩ (Nat.le_refl _) (by simpa using hany))
 rintro F' a' w' hp' M' ⟨fr',rfl,hq⟩ h1 h2 h3 h4
 obtain⟨p,hb,ho,hf⟩:=hL _ hq
 simp only at hb ho hf
 obtain⟨M2,r1,r2,r3,r4,r5,r6⟩:=Kmn (n0:=hp.length) p.1 p.2 hb h1.heap
 rw[ho] at r1 r2
 have hown:ownZ Z hp0 M2=ownZ Z hp' M':=Kpi (fun b=>by rw[r2]) r5
 refine⟨fr0,hp0,M2,hk,⟨r1,fun t g hg=>?_,h1.size,h1.defers⟩,by rw[r2];exact h2,?_⟩
 ·have:=Kmy (f:=fun t=>(Fr.get fr' t).map (G.ren (pf p.1))) hf hg
  obtain⟨g0,e1,rfl⟩:=oMs.1 this
  obtain⟨v,e2,e3⟩:=h1.fr t g0 e1
  rw[hown]
  exact⟨v,e2,e3.ren r3⟩
 refine⟨by rw[r4];exact Nat.le_trans hF h3.le,fun i hi=>?_⟩
 have hi':i<hp.length:=by omega
 have e:=r3 i (nLl hi' h3.le)
 rw[r6 i hi'] at e
 rw[e,h3.eq i hi',ha.eq i hi]
theorem Koa(hΓ:TOK P Γ){id:Nat}{ops:Array Oper}(hpL:List Ob)(ll hl:List Nat)(bx:List (Nat×List Nat))(sps:List Spec)(ps:List (List Nat×List Nat))(fr0:Fr)(hp0:List Ob)(hm:P.follows .mixedOrders=true)(hR:(anyC Γ N hpL ll hl bx sps ops ops.toList.length (Array.replicate ops.toList.length false) fr hp []).map (fun ls=>leavesN hp.length (fr0.map (·.1)) (ls.map fun s=>(s.1,s.2.1)) ps)=some (List.replicate ps.length (true,fr0.map (fun e=>some e.2),hp0)))(hG:(anyC Γ N hpL ll hl bx sps ops ops.toList.length (Array.replicate ops.toList.length false) fr hp []).map (fun ls=>ls.map fun s=>s.2.2.map (·.1))=(anyC Γ N hpL ll hl bx sps ops ops.toList.length (Array.replicate ops.toList.length false) fr hp []).map (fun ls=>ls.map fun s=>s.2.2.map (·.2)))(hS:∀ sp∈sps,SpecOk P N ops sp)(hst:StaysL hpL hp)(hF:F≤hp.length)(k:St.holds P F N Q (.fin .normal ks) fr0 hp0):St.holds P F N Q (.code (.region id ops true) ks) fr hp:=by
 have:=Knz (P:=P) (F:=F) (N:=N) (Q:=stk P F N Q ks) (fr:=fr) (hp:=hp) (hpL:=hpL) (ll:=ll) (hl:=hl) (id:=id) (l:=ops.toList) hΓ bx sps ps (fr0:=fr0) (hp0:=hp0) hm
 simp only[Array.toArray_toList] at this
 exact this hR hG hS hst hF k
theorem Kob{L:List Nat}:∀ {sf:Fr} {t:Nat} {g:G},(sf.all fun e=>L.any (Nat.beq e.1))=true→sf.get t=some g→t∈L
 | [],t,g,_,h=>by cases h
 | (t0,g0) :: r,t,g,ha,h=>by
  simp only[List.all_cons,Bool.and_eq_true] at ha
  simp only[Fr.get] at h
  cases hb:Nat.beq t0 t with
  | true=>
   obtain rfl:=nEq hb
   obtain⟨x,hx,e⟩:=List.any_eq_true.1 ha.1
   exact nEq e▸hx
  | false=>rw[hb] at h;exact Kob ha.2 h
theorem Koc{fop:Operand}{args:Array Operand}{ts:Array TypeId}{f:FuncId}{g1 g2 gs gs':List G}{r:G}{ty:TypeId}{pos:String}{after:Array Edge}{k:Nat}{sf:Fr}{d:Tmp}(ho:ops[k]?=some ⟨some d,.call ⟨.value fop,args,ts⟩,ty,pos,after,none⟩)(hd:Nat.blt d N=true)(hL:(sf.all fun e=>(Oper.looksAt ops ⟨some d,.call ⟨.value fop,args,ts⟩,ty,pos,after,none⟩).any (Nat.beq e.1))=true)
  (hcl:Callable P f) (hc:Pure P f gs r) (hf:sf.ev fop=some (.fn (.func f) g1 g2)) (ha:args.toList.mapM sf.ev=some gs') (hgs:gs=g1++gs'++g2) (hb:G.belAll 0 gs=true) (hb':r.bel 0=true):SpecOk P N ops ⟨k,sf,r,none⟩:=by
 subst hgs
 exact⟨_,d,ho,rfl,nblt.1 hd,rfl,fun t g' ht=>Kob hL ht,fun hp=>Kjp (Kfb hf ha hcl hc hb hb')⟩
end
end Go.Gk
