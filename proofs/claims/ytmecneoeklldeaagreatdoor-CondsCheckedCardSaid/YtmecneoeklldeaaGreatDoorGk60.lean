import Derived.Test.YtmecneoeklldeaaGreatDoorGk49
import Derived.Laws.CopyRow
set_option linter.all false
namespace Go.Gk
abbrev eU(b:UInt8):List D:=[.v (.int .u8 b.toNat)]
def cpA(o:Nat)(xs:List Int)(j:Nat)(c:Int):Int:=bif Nat.ble o j then(xs[j - o]?).getD c else c
def copyAt(o:Nat)(xs:List Int):Nat→List Int→List Int
 | _,[]=>[]
 | j,c :: r=>cpA o xs j c :: copyAt o xs (j+1) r
theorem Kmv{o:Nat}{xs:List Int}:∀ {l:List Int} {j:Nat},(copyAt o xs j l).length=l.length
 | [],_=>rfl
 | c :: r,j=>by simp[copyAt,Kmv (l:=r)]
theorem Kmw{o:Nat}{xs:List Int}:∀ {l:List Int} {j i:Nat},(copyAt o xs j l)[i]?=(l[i]?).map (cpA o xs (j+i))
 | [],_,i=>by simp[copyAt]
 | c :: r,j,0=>by simp[copyAt]
 | c :: r,j,i+1=>by simp only[copyAt,List.getElem?_cons_succ];rw[Kmw (l:=r)];congr 2;omega
theorem Kmx{a:Int}{n:Nat}(hg:(decide (0≤a)&&decide (a≤(n:Int)))=true):a.toNat+(n - a.toNat)=n:=by
 simp only[Bool.and_eq_true,decide_eq_true_eq] at hg;omega
abbrev fI(k:IntKind)(z:Int):G:=.d (.v (.int k z))
theorem Kmy{o m:Nat}{xs l:List Int}(h:o+m≤l.length)(hm:m≤xs.length)(hx:m=xs.length∨o+m=l.length):copyAt o xs 0 l=setAt l o (xs.take m):=by
 have hl:(xs.take m).length=m:=by simp;omega
 apply List.ext_getElem?
 intro j
 rw[Kmw,Kqc (by omega),Nat.zero_add,hl]
 by_cases hj:j<l.length
 ·rw[gGe hj]
  simp only[Option.map_some,cpA]
  cases hb:Nat.ble o j with
  | false=>
   have:¬ o≤j:=fun h=>by rw[Nat.ble_eq_true_of_le h] at hb;cases hb
   rw[if_neg (by omega)];rfl
  | true=>
   have hle:=nBe hb
   simp only[cond_true]
   by_cases hlt:j<o+m
   ·rw[if_pos ⟨hle,hlt⟩,List.getElem?_take_of_lt (by omega),gGe (by omega)];rfl
   rw[if_neg (by omega)]
   rcases hx with hx | hx
   ·rw[List.getElem?_eq_none (by omega)];rfl
   omega
 rw[List.getElem?_eq_none (by omega),if_neg (by omega)];rfl
section
variable{P:Program}{Γ:TypeId→Option TI}{F N:Nat}{fr:Fr}{hp:List Ob}{g:G}{Q:GPost}{ops:Array Oper}{rest:List Oper}{ks:List Kt}
variable{d:Tmp}{ty:TypeId}{pos:String}{after:Array Edge}{gd':Option (Nat×Bool)}
theorem Kmz(hΓ:TOK P Γ){t te:TypeId}{i1 i2:TI}{x:Operand}{lo:Option Operand}{id off n:Nat}{a:Int}(h1:Γ t=some i1)(h1':i1.desc=.array n te)(h2:Γ te=some i2)(hs:Nat.beq i2.size 1=true)(hx:fr.ev x=some (.ptr id off))
  (hlo:fr.bound lo 0=some a) (hg:(decide (0≤a)&&decide (a≤(n:Int)))=true):OpP P N ⟨some d,.slice t x lo none none,ty,pos,after,gd'⟩ fr hp (.sa id (off+a.toNat) (n - a.toNat)):=fun Z w M a' hr=>by
 obtain⟨u1,_⟩:=hΓ t _ h1
 rw[h1'] at u1
 obtain⟨_,inf,e1,e2,e3,e4⟩:=hΓ te _ h2
 have hs1:inf.size=1:=e2.trans (nEq hs)
 simp only[Bool.and_eq_true,decide_eq_true_eq] at hg
 have ha:(a.toNat:Int)=a:=Int.toNat_of_nonneg hg.1
 have hvx:=hr.ev hx
 generalize hvv:a'.eval x=vx at hvx
 cases hvx with
 | ptr hM=>
  rename_i b c
  have hb:=Kft (P:=P) (w:=w) (b:=false) (l:=a.toNat) (h:=n) (len:=n) (cap:=n) hr (lo:=lo) (hi:=none) (by rw[ha];exact hlo) rfl (by omega) (Nat.le_refl _)
  refine⟨.slice (some ⟨b,if n=a.toNat then off else off+a.toNat,none⟩) (n - a.toNat) (n - a.toNat),?_,.sa hM ?_⟩
  ·simp only[Option.map_none] at hb
   simp[execOp,Instr.sliceAt,run_underlying u1,hvv,Instr.sureAddr,hb,sizeOf,typeInfo,e1,hs1,Addr.add]
   split
   ·rfl
   ·split
    ·have:a.toNat=0:=by omega
     rw[this];rfl
    ·rfl
  ·by_cases h:n=a.toNat
   ·exact .inl (by omega)
   ·exact .inr (by rw[if_neg h])
theorem Kna(hΓ:TOK P Γ){t te tb t2:TypeId}{i1 i2:TI}{x y:Operand}{id p o n:Nat}{pre post:List G}{l xs:List Int}{k:IntKind}{dst:Option Tmp}{hp2:List Ob}(hn:o+n=l.length)(hpl:Nat.beq pre.length p=true)(h1:Γ t=some i1)(h1':i1.desc=.slice te)(h2:Γ te=some i2)(hs:Nat.beq i2.size 1=true)
  (hx:fr.ev x=some (.sa id (p+o) n)) (ho:hp[id]?=some (.box tb (pre++(l.map (fI k)++post)))) (hy:fr.ev y=some (.d (Sl (eN k) xs)))
  (hhp:hp.set id (.box tb (pre++((copyAt o xs 0 l).map (fI k)++post)))=hp2) :
  OpS P N ⟨dst,.call ⟨.builtin .copy,#[x,y],#[t,t2]⟩,ty,pos,after,gd'⟩ fr hp (I ((Nat.min xs.length n:Nat):Int)) hp2:=fun Z w M a hr=>by
 subst hhp
 obtain⟨u1,_⟩:=hΓ t _ h1
 rw[h1'] at u1
 obtain⟨_,inf,e1,e2,e3,e4⟩:=hΓ te _ h2
 have hs1:inf.size=1:=e2.trans (nEq hs)
 have hpl':=nEq hpl
 have hvx:=hr.ev hx
 have hvy:=hr.ev hy
 generalize hvv:a.eval x=vx at hvx
 generalize hww:a.eval y=vy at hvy
 cases hvx with
 | sa hM hpo=>
  rename_i b c q
  cases hvy with
  | d hd=>
  obtain⟨cs,hb,hl,hcr⟩:=hr.heap.obj id _ _ ho hM
  have hag:Agr hp.length M M:=⟨Nat.le_of_eq hr.heap.len.symm,fun _ _=>rfl⟩
  have hfl:xs.flatMap (eN k)=xs.map fun z=>D.v (.int k z):=by
   clear hww hd hy
   induction xs with
   | nil=>rfl
   | cons z r ih=>simp[List.flatMap_cons,ih,eN]
  obtain⟨m,hm⟩:∃ m,m=Nat.min xs.length n:=⟨_,rfl⟩
  have hmx:m≤xs.length:=by rw[hm];exact Nat.min_le_left _ _
  have hmn:m≤n:=by rw[hm];exact Nat.min_le_right _ _
  have hread:∃ len cap base,vy=.slice base len cap∧len=xs.length∧(Builtin.firstCells 1 m vy).run P w=.ok ((xs.take m).map fun z=>Value.int k z).toArray w:=by
   rcases Kes hd with⟨rfl,h0,_⟩ | ⟨bb,oo,cap,vs,rfl,hvl,hvc,hvd,_⟩
   ·have:xs=[]:=List.eq_nil_of_length_eq_zero h0
    subst this
    exact⟨_,_,_,rfl,rfl,by simp[Builtin.firstCells]⟩
   ·refine⟨_,_,_,rfl,rfl,?_⟩
    have hvs:vs=xs.map fun z=>Value.int k z:=by
     rw[hfl] at hvl hvd
     apply List.ext_getElem?
     intro j
     by_cases hj:j<xs.length
     ·have hj':j<vs.length:=by rw[hvl];simpa using hj
      have:=hvd j (vs[j]) (.v (.int k xs[j])) (gGe hj') (by simp[hj])
      rw[gGe hj',gMp,gGe hj]
      exact congrArg some (vr_v (M:=M) (.d this))
     ·rw[List.getElem?_eq_none (by rw[hvl];simp;omega),List.getElem?_eq_none (by simp;omega)]
    have:=run_firstCells_some (P:=P) w 1 m ⟨bb,oo,none⟩ xs.length cap ((xs.take m).map fun z=>Value.int k z) (by simp;omega) fun j v hj=>by
     have hjm:j<m:=by have:=(gEs.1 hj).1;simp at this;omega
     have h2:vs[j]?=some v:=by rw[hvs];rw[gMp,List.getElem?_take_of_lt hjm] at hj;rw[gMp];exact hj
     rw[Addr.add_lit]
     exact hvc j v h2
    exact this
  obtain⟨len,cap,base,hvy',hlen,hrd⟩:=hread
  have hset:copyAt o xs 0 l=setAt l o (xs.take m):=Kmy (by omega) hmx (by
   rw[hm]
   simp only[Nat.min_def]
   split
   ·exact .inl rfl
   ·exact .inr hn)
  have hlen2:(xs.take m).length=m:=by simp;omega
  have hlast:∃ w',(storeCells ⟨b,q,none⟩ ((xs.take m).map fun z=>Value.int k z)).run P w=.ok () w'∧RelH Z (hp.set id (.box tb (pre++((copyAt o xs 0 l).map (fI k)++post)))) M w'∧Stp w (own hp M) w' (own (hp.set id (.box tb (pre++((copyAt o xs 0 l).map (fI k)++post)))) M):=by
   by_cases hn0:n=0
   ·have hm0:m=0:=by omega
    have hsame:(pre++((copyAt o xs 0 l).map (fI k)++post))=(pre++(l.map (fI k)++post)):=by
     rw[hset];simp[hm0,setAt]
    have hid:id<hp.length:=(gEs.1 ho).1
    have hpp:hp.set id (.box tb (pre++(l.map (fI k)++post)))=hp:=by
     apply List.ext_getElem?
     intro j
     by_cases hj:id=j
     ·subst hj;rw[gSs hid,ho]
     ·rw[gSn hj]
    rw[hsame,hpp]
    exact⟨w,by simp[hm0,storeCells],hr.heap,.refl _ _⟩
   ·have hqo:q=p+o:=hpo.resolve_left hn0
    subst hqo
    have hgl:(pre++(l.map (fI k)++post)).length=p+l.length+post.length:=by simp[hpl'];omega
    have hnew:(pre++((copyAt o xs 0 l).map (fI k)++post))=setAt (pre++(l.map (fI k)++post)) (p+o) ((xs.take m).map (fI k)):=by
     apply List.ext_getElem?
     intro j
     rw[Kqc (by simp[hpl'];omega)]
     simp only[List.length_map,hlen2]
     by_cases hjp:j<p
     ·rw[gAl (by omega),if_neg (by omega),gAl (by omega)]
     ·rw[gAr (by omega)]
      by_cases hjl:j - pre.length<l.length
      ·rw[gAl (by simpa [Kmv] using hjl),hset,gMp,Kqc (by omega),hlen2]
       by_cases hin:o≤j - pre.length∧j - pre.length<o+m
       ·rw[if_pos hin,if_pos (by omega),gMp,show j - (p+o)=j - pre.length - o from by omega]
       ·rw[if_neg hin,if_neg (by omega),gAr (by omega),gAl (by simpa using hjl),gMp]
      ·rw[if_neg (by omega),gAr (by simp[Kmv];omega),gAr (by omega),gAr (by simp;omega)]
       simp[Kmv]
    rw[hnew]
    have hfit:p+o+((xs.take m).map fun z=>Value.int k z).length≤cs.size:=by rw[hl,hgl];simp;omega
    have hfit':p+o+((xs.take m).map (fI k)).length≤(pre++(l.map (fI k)++post)).length:=by rw[hgl];simp;omega
    have hone:∀ v∈(xs.take m).map (fun z=>Value.int k z),v.oneCell'=true:=fun v hv=>by
     obtain⟨z,_,rfl⟩:=List.mem_map.1 hv;rfl
    obtain⟨w',r1,r2,r3⟩:=Kqe (P:=P) (o':=.box tb (setAt (pre++(l.map (fI k)++post)) (p+o) ((xs.take m).map (fI k)))) hr.heap ho rfl hM hb (off:=p+o) (vs:=(xs.take m).map fun z=>Value.int k z) hfit hone
     (fun w' hst hh=>⟨_,hh,by
      simp only[List.size_toArray]
      rw[Kqd (by simpa using hfit),Kqd hfit'];simpa using hl,CellsR.setAt (vs:=((xs.take m).map fun z=>Value.int k z).toArray)
      (fun j g hj=>let ⟨v,e1,e2,e3⟩:=hcr j g hj;⟨v,e1,e2,e3.step hst (fun _ _=>rfl)⟩) (fun j g hj=>by
       rw[gMp] at hj
       obtain⟨z,hz,rfl⟩:=oMs.1 hj
       exact⟨.int k z,by rw[List.getElem?_toArray,gMp,hz];rfl,rfl,.d (.v _ rfl)⟩) (by simp) hfit' (by omega)⟩) rfl
    exact⟨w',r1,r2,r3⟩
  obtain⟨w',r1,r2,r3⟩:=hlast
  refine⟨_,w',M,?_,r2,.d (.v _ rfl),r3,hag⟩
  subst hvy' hlen
  have hmm:xs.length.min n=m:=hm.symm
  simp only[execOp,resolve,invoke,builtin]
  simp[Builtin.copy_,hvv,hww,run_underlying u1,Builtin.lenOf,sizeOf,typeInfo,e1,hs1,hmm,hrd,goInt]
  rw[←List.map_take,r1]
  rfl
end
def ErrsT(P:Program)(f:FuncId)(gs:List G)(z:Int):Prop:=EC P f gs [] fun g hp'=>(∃ t x,g=.tup [I z,.d (.v (.iface t x))])∧hp'=[]
section
variable{P:Program}{F N:Nat}{ops:Array Oper}{rest:List Oper}{Q:GPost}{fr:Fr}{hp hp':List Ob}{g:G}
variable{d:Tmp}{ty:TypeId}{pos:String}{after:Array Edge}{fop:Operand}{args:Array Operand}{ts:Array TypeId}{f:FuncId}{g1 g2 gs gs':List G}
end
def Kmt(b:List UInt8):Option Unit:=some ()
def Kmu(b:List UInt8):Option (List UInt8):=some b
end Go.Gk
