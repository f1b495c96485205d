import Derived.Test.YtfnjahjbpaoepaaGreatDoorGk52
import Derived.Laws.CopyRow
set_option linter.all false
namespace Go.Gk
abbrev eU(b:UInt8):List D:=[.v (.int .u8 b.toNat)]
def cpA(o:Nat)(xs:List Int)(j:Nat)(c:Int):Int:=bif Nat.ble o j then(xs[j - o]?).getD c else c
def copyAt(o:Nat)(xs:List Int):Nat→List Int→List Int
 | _,[]=>[]
 | j,c :: r=>cpA o xs j c :: copyAt o xs (j+1) r
abbrev fI(k:IntKind)(z:Int):G:=.d (.v (.int k z))
section
variable{P:Program}{Γ:TypeId→Option TI}{F N:Nat}{fr:Fr}{hp:List Ob}{g:G}{Q:GPost}{ops:Array Oper}{rest:List Oper}{ks:List Kt}
variable{d:Tmp}{ty:TypeId}{pos:String}{after:Array Edge}{gd':Option (Nat×Bool)}
theorem Kok{c:Code}(id k:Nat){t:TypeId}{gs:List G}(hp2:List Ob)(ho:hp[id]?=some (.box t gs))(hk:gs[k]?=some (.d (.v (.pointer none))))(hhp:hp.set id (.box t (gs.set k (.pn id)))=hp2)
  (kk:St.holds P F N Q (.code c ks) fr hp2):St.holds P F N Q (.code c ks) fr hp:=by
 subst hhp
 intro Z w0 O0 M0 w M a hs ha hr
 have hid:id<hp.length:=(gEs.1 ho).1
 have hlt:k<gs.length:=(gEs.1 hk).1
 obtain⟨r1,r2⟩:=Kmz (gs':=gs.set k (.pn id)) hr.heap ho (by simp) fun j g' hg'=>by
  by_cases hjk:k=j
  ·subst hjk
   rw[gSs hlt] at hg'
   cases hg'
   refine⟨_,hk,fun v hv=>?_⟩
   rw[vr_v hv]
   exact .pnn (x:=M.l[id]'(by rw[hr.heap.len];exact hid)) (gGe _)
  ·rw[gSn hjk] at hg'
   exact⟨g',hg',fun _ h=>h⟩
 refine kk Z w0 O0 M0 w M a (by rw[r2];exact hs) ha ⟨r1,fun t' g hg=>?_,hr.size,hr.defers⟩
 obtain⟨v,e1,e2⟩:=hr.fr t' g hg
 have hz:ownZ Z (hp.set id (.box t (gs.set k (.pn id)))) M=ownZ Z hp M:=Kpi (fun b=>by rw[r2]) rfl
 rw[hz]
 exact⟨v,e1,e2⟩
theorem RelH.wreck{Z:Env}{M:Mp}{w w':World}{hp hp':List Ob}(hr:RelH Z hp M w)(hnb:¬ hasBag hp)(hd:∀ (i:Nat) (o:Ob),hp'[i]?=some o→o=.dead)(hl:hp'.length=hp.length)(size:w.heap.size≤w'.heap.size)
  (keep:∀ b,b<w.heap.size→¬ obOwn hp M b→w'.heap[b]?=w.heap[b]?) (os:w'.os=w.os) (tape:w'.tape=w.tape) (output:w'.output=w.output):RelH Z hp' M w'∧Stp w (own hp M) w' (own hp' M):=by
 have ho:∀ b,¬ obOwn hp' M b:=by
  rintro b ⟨i,o,c,h1,h2,_⟩
  rw[hd i o h1] at h2;cases h2
 have hb:¬ hasBag hp':=by
  rintro⟨i,al,ar,lt,h⟩
  cases hd _ _ h
 have hw:∀ b,¬ own hp' M b:=fun b h=>h.elim (ho b) fun h=>hb h.1
 have hst:Stp w (own hp M) w' (own hp' M):=.mk' size (fun b hb' hn=>keep b hb' fun h=>hn (.inl h)) (fun b _ h=>absurd h (hw b)) os tape output rfl (fun g=>absurd g hb) fun x hx hz=>by
  obtain⟨h1,h2⟩:=hr.bags.tgs x hx
  exact keep x.b h1 (h2 hz)
 refine⟨⟨by rw[hl];exact hr.len,fun i o m h1 _=>?_,fun b h=>absurd h (hw b),fun b hz=>nLl (hr.old b hz) size,hr.amb_stp hst,fun i j oi oj b c c' hi hj li=>?_,hr.bags.mono rfl size (fun b _ h=>absurd h (ho b)) fun i al ar lt h=>absurd ⟨i,al,ar,lt,h⟩ hb⟩,hst⟩
 ·rw[hd i o h1];trivial
 ·rw[hd i oi hi] at li;cases li
theorem Kol{w:World}{b j:Nat}{cs:Array Value}{t:TypeId}{v:Value}(hb:w.heap[b]?=some (.cells cs t (0,0)))(hj:j<cs.size):w.setCell ⟨b,j,none⟩ v=w.setRow b (cs.toList.take j++[v]++cs.toList.drop (j+1)).toArray:=by
 have hlt:b<w.heap.size:=(aEs.1 hb).1
 have hv:w.heap[b]=.cells cs t (0,0):=(aEs.1 hb).2
 unfold World.setCell World.setRow
 congr 1
 apply Array.ext
 ·simp
 intro k h1 h2
 rw[Array.getElem_modify,Array.getElem_modify]
 split
 ·rename_i e
  subst e
  rw[hv]
  simp only[Option.isSome_none,Bool.false_eq_true,if_false]
  congr 1
  apply Array.ext'
  apply List.ext_getElem?
  intro q
  simp only[Array.toList_setIfInBounds,List.getElem?_set]
  by_cases hq:j=q
  ·subst hq
   have hmin:min j cs.size=j:=by omega
   rw[if_pos rfl,List.append_assoc,gAr (by simp[hmin])]
   simp[hj,hmin]
  rw[if_neg hq]
  by_cases hlt2:q<j
  ·rw[List.append_assoc,gAl (by simp;omega),List.getElem?_take_of_lt hlt2]
  rw[gAr (by simp;omega),List.getElem?_drop]
  congr 1
  simp
  omega
 rfl
theorem Kom{Z:Env}{M:Mp}{w:World}{hp:List Ob}(hr:RelH Z hp M w){id b c j:Nat}{t:TypeId}{gs:List G}{cs:Array Value}{g':G}{v:Value}(ho:hp[id]?=some (.box t gs))(hM:M.l[id]?=some (some (b,c)))(hb:w.heap[b]?=some (.cells cs t (0,0)))(hl:cs.size=gs.length)(hcr:CellsR w (ownZ Z hp M) M cs gs)
  (hj:j<gs.length) (h1:v.oneCell'=true) (hv:VR w (ownZ Z hp M) M g' v) (hp2:List Ob) (hhp:hp.set id (.box t (gs.set j g'))=hp2):RelH Z hp2 M (w.setCell ⟨b,j,none⟩ v)∧Stp w (own hp M) (w.setCell ⟨b,j,none⟩ v) (own hp2 M):=by
 subst hhp
 have P:Program:=default
 have hset:gs.set j g'=setAt gs j [g']:=by
  apply List.ext_getElem?
  intro k
  rw[Krq (by simp;omega),List.getElem?_set]
  by_cases hk:j=k
  ·subst hk;simp[hj]
  ·rw[if_neg hk,if_neg (by simp;omega)]
 rw[hset]
 obtain⟨w',r1,r2,r3⟩:=Krs (P:=P) (o':=.box t (setAt gs j [g'])) hr ho rfl hM hb (off:=j) (vs:=[v]) (by simp;omega) (fun u hu=>by simp at hu;subst hu;exact h1)
  (fun w' hst hh=>⟨_,hh,by
   simp only[List.size_toArray]
   rw[Krr (by simp;omega),Krr (by simp;omega)];simpa using hl,CellsR.setAt (vs:=#[v])
   (fun j g hj=>let ⟨v,e1,e2,e3⟩:=hcr j g hj;⟨v,e1,e2,e3.step hst (fun _ _=>rfl)⟩) (fun k g hk=>by
    cases k with
    | zero=>simp at hk;subst hk;exact⟨v,rfl,h1,hv.step hst (fun _ _=>rfl)⟩
    | succ k=>simp at hk) (by simp) (by simp;omega) (by omega)⟩) rfl
 have:=run_storeCells_at P b j t [v] 0 cs w hb (by simp;omega) (fun u hu=>by simp at hu;subst hu;exact h1)
 rw[r1] at this
 injection this with _ this
 rw[Kol hb (by omega)]
 simp only[Nat.add_zero,List.length_cons,List.length_nil,Nat.zero_add] at this
 rw[←this]
 exact⟨r2,r3⟩
theorem Kon(s:List UInt8):s.flatMap eU=strD s:=by
 induction s with
 | nil=>rfl
 | cons x r ih=>simp[List.flatMap_cons,ih,eU,strD,strCells]
theorem Koo(hΓ:TOK P Γ){t tu te:TypeId}{i1 i2 i3:TI}{x y:Operand}{id n:Nat}{l r s:List UInt8}(hz:apd l s=some r)(h1:Γ t=some i1)(h1':i1.desc=.slice te)(h2:Γ te=some i2)(h3:Γ tu=some i3)(h3':i3.desc=.string)(hzc:Nat.beq i2.zero.cells.size i2.size=true)(hz1:i2.size=1)
  (hx:fr.ev x=some (.sl id n)) (hn:n=l.length) (ho:hp[id]?=some (.row te i2.size l.length (l.flatMap eU))) (hy:fr.ev y=some (S s)) (hbytes:Nat.ble (4294967296 * i2.bytes) 140737488355328=true) :
  OpS P N ⟨some d,.call ⟨.builtin .append,#[x,y],#[t,tu]⟩,ty,pos,after,gd'⟩ fr hp (.sl hp.length r.length) (hp.set id .dead++[.row te i2.size r.length (r.flatMap eU)]):=by
 obtain⟨rfl,hle⟩:=Kgv hz
 subst hn
 have hb:=nBe hbytes
 have hmul:(l.length+s.length) * i2.bytes≤4294967296 * i2.bytes:=Nat.mul_le_mul_right _ hle
 have:=Kmd (P:=P) (N:=N) (d:=d) (ty:=ty) (pos:=pos) (after:=after) (gd':=gd') hΓ h1 h1' h2 h3 h3' hzc hz1 hx ho hy (by omega) (by simp only[maxLen];omega)
 rw[List.length_append,List.flatMap_append,Kon s]
 exact this
end
def ErrsT(P:Program)(f:FuncId)(gs:List G)(z:Int):Prop:=EC P f gs [] fun g hp'=>(∃ t x,g=.tup [I z,.d (.v (.iface t x))])∧hp'=[]
section
variable{P:Program}{F N:Nat}{ops:Array Oper}{rest:List Oper}{Q:GPost}{fr:Fr}{hp hp':List Ob}{g:G}
variable{d:Tmp}{ty:TypeId}{pos:String}{after:Array Edge}{fop:Operand}{args:Array Operand}{ts:Array TypeId}{f:FuncId}{g1 g2 gs gs':List G}
end
def Koi(b:List UInt8):Option Unit:=some ()
def Koj(b:List UInt8):Option (List UInt8):=some b
end Go.Gk
