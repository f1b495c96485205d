import Derived.Test.YtcihhlhmkcaeeaaGreatDoorGk24
set_option linter.all false
namespace Go.Gk
def QtE(P:Program)(N:Nat)(o:Oper)(fr:Fr)(hp:List Ob)(g:G)(hp':List Ob):Prop:=
 ∀ Z w M a,Rel Z hp M w fr a N→∀ (K:Act→World→Prop) (Q:Exit→Act→World→Prop),
  (∀ v w' M',RelH Z hp' M' w'→VR w' (ownZ Z hp' M') M' g v→Stp w (own hp M) w' (own hp' M')→Agr hp.length M M'→K (a.put o.dst v) w')→o.wp P a w K Q
def Stays(hpL hp:List Ob):Prop:=∀ (i:Nat) (o:Ob),hpL[i]?=some o→o.live=true→hp[i]?=some o
section
variable{P:Program}{N:Nat}{ops:Array Oper}{md:Region.Mode}{hpL:List Ob}{light heavy brk:Nat→Bool}
def Okd(F:FF)(ops:Array Oper)(o:Oper):Prop:=o.guard=none∨∃ j want,o.guard=some (j,want)∧F.guard ops j want=some true
def YL(P:Program)(N:Nat)(hpL:List Ob)(lt:Bool)(ops:Array Oper)(o:Oper)(F:FF)(g:G):Prop:=
 (∀ d,o.dst=some d→d<N)∧((∃ j want,o.guard=some (j,want)∧F.guard ops j want=some false∧g=.tup [])∨
  (Okd F ops o∧∃ fr:Fr,(∀ t g',fr.get t=some g'→t∈o.looksAt ops∧F t=some g')∧∀ hp,(lt=true→Stays hpL hp)→QtE P N o fr hp g hp))
def YH(P:Program)(N:Nat)(ops:Array Oper)(o:Oper)(F:FF)(hp:List Ob)(g:G)(hp':List Ob):Prop:=
 (∀ d,o.dst=some d→d<N)∧Okd F ops o∧hp.length≤hp'.length∧∃ fr:Fr,(∀ t g',fr.get t=some g'→t∈o.looksAt ops∧F t=some g')∧QtE P N o fr hp g hp'
def NewOp(brk:Nat→Bool)(i j:Nat):Prop:=i<1000∧brk (i+1000 * (j+1))=true
def Lays(P:Program)(o:Oper)(t:TypeId)(cs:Array Value):Prop:=∀ (ev:Operand→Value) (w:World),(execOp ev o).run P w=.ok (.value (.pointer (some ⟨w.heap.size,0,none⟩))) (w.alloc (.cells cs t))
def YN(P:Program)(N:Nat)(brk:Nat→Bool)(i:Nat)(o:Oper):Prop:=
 ∃ (j d:Nat) (t:TypeId) (cs:Array Value),NewOp brk i j∧o.dst=some d∧d<N∧o.guard=none∧Lays P o t cs
def YC(P:Program)(N:Nat)(brk:Nat→Bool)(ops:Array Oper)(i:Nat)(o:Oper)(F:FF)(hp:List Ob)(x:Option Tmp)(g:G)(hp':List Ob):Prop:=
 ∃ (i0 d0:Nat) (o0:Oper) (t:TypeId) (cs:Array Value) (gs:List G) (g':G),NewOp brk i0 i∧ops[i0]?=some o0∧o0.dst=some d0∧Lays P o0 t cs∧cs.size=gs.length∧(∀ w O M,CellsR w O M cs gs)∧o.dst=none∧x=some d0∧g=.ptr hp.length 0∧hp.length≤hp'.length∧
  YH P N ops o (F.put (some d0) (.ptr hp.length 0)) (hp++[.box t gs]) g' hp'
def YE(P:Program)(N:Nat)(hpL:List Ob)(light heavy brk:Nat→Bool)(ops:Array Oper)(i:Nat)(o:Oper)(F:FF)(hp:List Ob)(x:Option Tmp)(g:G)(hp':List Ob):Prop:=
 (YL P N hpL (light i) ops o F g∧x=o.dst∧hp'=hp∧∀ j,¬ NewOp brk i j)∨(YN P N brk i o∧x=o.dst∧g=.junk∧hp'=hp)∨(heavy i=true∧YH P N ops o F hp g hp'∧x=o.dst∧(∀ j,¬ NewOp brk i j)∧(brk i=false→Stays hpL hp→Stays hpL hp'))∨
  (heavy i=true∧YC P N brk ops i o F hp x g hp'∧(∀ j,¬ NewOp brk i j)∧(brk i=false→Stays hpL hp→Stays hpL hp'))
theorem Okd.of_same{o:Oper}{F F':FF}(h:Okd F ops o)(hs:∀ t,t∈o.looksAt ops→F' t=F t):Okd F' ops o:=by
 refine h.imp (fun h=>h) fun ⟨j,want,h1,h2⟩=>⟨j,want,h1,?_⟩
 unfold FF.guard at *
 cases ht:(ops[j]?).bind (·.dst) with
 | none=>rw[ht] at h2;simp at h2
 | some t=>
  rw[ht] at h2
  have:t∈o.looksAt ops:=by simp[Oper.looksAt,h1,ht]
  simp only[Option.bind_some] at h2 ⊢
  rw[hs t this];exact h2
theorem YL.of_same{lt:Bool}{o:Oper}{F F':FF}{g:G}(h:YL P N hpL lt ops o F g)(hs:∀ t,t∈o.looksAt ops→F' t=F t):YL P N hpL lt ops o F' g:=by
 refine⟨h.1,?_⟩
 rcases h.2 with⟨j,want,h1,h2,h3⟩ | ⟨h1,fr,h2,h3⟩
 ·refine .inl ⟨j,want,h1,?_,h3⟩
  unfold FF.guard at *
  cases ht:(ops[j]?).bind (·.dst) with
  | none=>rw[ht] at h2;simp at h2
  | some t=>
   rw[ht] at h2
   have:t∈o.looksAt ops:=by simp[Oper.looksAt,h1,ht]
   simp only[Option.bind_some] at h2 ⊢
   rw[hs t this];exact h2
 exact .inr ⟨h1.of_same hs,fr,fun t g' ht=>⟨(h2 t g' ht).1,(hs t (h2 t g' ht).1).trans (h2 t g' ht).2⟩,h3⟩
theorem YH.of_same{o:Oper}{F F':FF}{hp hp':List Ob}{g:G}(h:YH P N ops o F hp g hp')(hs:∀ t,t∈o.looksAt ops→F' t=F t):YH P N ops o F' hp g hp':=by
 obtain⟨h0,h1,hl,fr,h2,h3⟩:=h
 exact⟨h0,h1.of_same hs,hl,fr,fun t g' ht=>⟨(h2 t g' ht).1,(hs t (h2 t g' ht).1).trans (h2 t g' ht).2⟩,h3⟩
theorem YC.of_same{brk:Nat→Bool}{i:Nat}{o:Oper}{F F':FF}{hp hp':List Ob}{x:Option Tmp}{g:G}(h:YC P N brk ops i o F hp x g hp')(hs:∀ t,t∈o.looksAt ops→F' t=F t):YC P N brk ops i o F' hp x g hp':=by
 obtain⟨i0,d0,o0,t,cs,gs,g',h1,h2,h3,h4,h5,h6,h7,h8,h9,h10,h11⟩:=h
 refine⟨i0,d0,o0,t,cs,gs,g',h1,h2,h3,h4,h5,h6,h7,h8,h9,h10,h11.of_same fun t ht=>?_⟩
 simp only[FF.put]
 by_cases hd:d0=t
 ·simp[hd]
 simp[hd,hs t ht]
theorem YE.of_same{i:Nat}{o:Oper}{F F':FF}{hp hp':List Ob}{x:Option Tmp}{g:G}(h:YE P N hpL light heavy brk ops i o F hp x g hp')(hs:∀ t,t∈o.looksAt ops→F' t=F t):YE P N hpL light heavy brk ops i o F' hp x g hp':=by
 rcases h with⟨h1,h2⟩ | h | ⟨h1,h2,h3⟩ | ⟨h1,h2,h3⟩
 ·exact .inl ⟨h1.of_same hs,h2⟩
 ·exact .inr (.inl h)
 ·exact .inr (.inr (.inl ⟨h1,h2.of_same hs,h3⟩))
 exact .inr (.inr (.inr ⟨h1,h2.of_same hs,h3⟩))
theorem YE.kind{i:Nat}{o:Oper}{F:FF}{hp hp':List Ob}{x:Option Tmp}{g:G}(h:YE P N hpL light heavy brk ops i o F hp x g hp'):(hp'=hp∧∀ hp2,YE P N hpL light heavy brk ops i o F hp2 x g hp2)∨(heavy i=true∧(brk i=false→Stays hpL hp→Stays hpL hp')):=by
 rcases h with⟨h1,h2,h3,h5⟩ | ⟨h1,h2,h3,h4⟩ | ⟨h1,h2,h3,h5,h4⟩ | ⟨h1,h2,h5,h3⟩
 ·exact .inl ⟨h3,fun hp2=>.inl ⟨h1,h2,rfl,h5⟩⟩
 ·exact .inl ⟨h4,fun hp2=>.inr (.inl ⟨h1,h2,h3,rfl⟩)⟩
 ·exact .inr ⟨h1,h4⟩
 exact .inr ⟨h1,h3⟩
theorem YE.slot{i:Nat}{o:Oper}{F:FF}{hp hp':List Ob}{x:Option Tmp}{g:G}(h:YE P N hpL light heavy brk ops i o F hp x g hp'):x=o.dst∨∃ (i0 d0:Nat) (o0:Oper),x=some d0∧NewOp brk i0 i∧ops[i0]?=some o0∧o0.dst=some d0:=by
 rcases h with⟨_,h2,_⟩ | ⟨_,h2,_⟩ | ⟨_,_,h3,_⟩ | ⟨_,h2,_⟩
 ·exact .inl h2
 ·exact .inl h2
 ·exact .inl h3
 obtain⟨i0,d0,o0,t,cs,gs,g',h1,h2,h3,h4,h5,h6,h7,h8,_⟩:=h2
 exact .inr ⟨i0,d0,o0,h8,h1,h2,h3⟩
def gOpE(P:Program)(N:Nat)(hpL:List Ob)(light heavy brk:Nat→Bool)(ops:Array Oper)(i:Nat)(K:FF→List Ob→Prop)(F:FF)(hp:List Ob):Prop:=
 match ops[i]? with
 | none=>K F hp
 | some o=>∃ x g hp',YE P N hpL light heavy brk ops i o F hp x g hp'∧(light i=true→Stays hpL hp)∧K (F.put x g) hp'
def anyE(P:Program)(N:Nat)(hpL:List Ob)(light heavy brk:Nat→Bool)(md:Region.Mode)(ops:Array Oper)(QF:FF→List Ob→Prop):Nat→Array Bool→FF→List Ob→Prop
 | 0,listed,F,hp=>Region.ready md ops listed=[]∧QF F hp
 | fuel+1,listed,F,hp=>(Region.ready md ops listed=[]→QF F hp)∧∀ i∈Region.ready md ops listed,gOpE P N hpL light heavy brk ops i (anyE P N hpL light heavy brk md ops QF fuel (listed.setIfInBounds i true)) F hp
inductive Bef (md:Region.Mode) (ops:Array Oper) (i:Nat):Nat→Prop
 | here {j:Nat} {o:Oper} {e:Edge} (ho:ops[j]?=some o) (he:e∈o.after) (hb:Region.binds md e=true) (h:e.on=i):Bef md ops i j
 | far {j:Nat} {o:Oper} {e:Edge} (ho:ops[j]?=some o) (he:e∈o.after) (hb:Region.binds md e=true) (h:Bef md ops i e.on):Bef md ops i j
def Shut(md:Region.Mode)(ops:Array Oper)(listed:Array Bool):Prop:=∀ (k:Nat) (o:Oper),listed.getD k false=true→ops[k]?=some o→∀ e∈o.after,Region.binds md e=true→listed.getD e.on false=true
theorem Bef.listed{i j:Nat}{listed:Array Bool}(h:Bef md ops i j)(hs:Shut md ops listed):(∀ o,ops[j]?=some o→∀ e∈o.after,Region.binds md e=true→listed.getD e.on false=true)→listed.getD i false=true:=by
 induction h with
 | here ho he hb h=>intro hr;rw[←h];exact hr _ ho _ he hb
 | far ho he hb _ ih=>intro hr;exact ih fun o' ho' e' he' hb'=>hs _ o' (hr _ ho _ he hb) ho' e' he' hb'
theorem Kgd{listed:Array Bool}{i:Nat}(h:listed.getD i true=false):listed.getD i false=true→False:=by
 intro h'
 rcases Nat.lt_or_ge i listed.size with hl | hl
 ·simp[hl] at h h';rw[h] at h';cases h'
 simp[Array.getElem?_eq_none hl] at h
theorem Kge{listed:Array Bool}{j:Nat}(hs:Shut md ops listed)(hj:j∈Region.ready md ops listed):Shut md ops (listed.setIfInBounds j true):=by
 intro k o hk ho e he hb
 by_cases hjk:j=k
 ·subst hjk
  obtain⟨_,o',ho',hall⟩:=mem_ready.1 hj
  rw[ho] at ho';cases ho'
  exact getD_set_true (hall e he hb)
 rw[getD_set_ne false hjk] at hk
 exact getD_set_true (hs k o hk ho e he hb)
def Keeps(hpL:List Ob)(light:Nat→Bool)(listed:Array Bool)(hp:List Ob):Prop:=(∃ k,light k=true∧listed.getD k true=false)→Stays hpL hp
structure Ord0(md:Region.Mode)(ops:Array Oper)(light heavy brk:Nat→Bool):Prop where
 lb:∀ i j:Nat,light i=true→brk j=true→i<ops.size→j<ops.size→Bef md ops i j
 nb:∀ i j:Nat,NewOp brk i j→Bef md ops i j
 nd:∀ (i j:Nat) (oi:Oper) (d:Tmp),NewOp brk i j→ops[i]?=some oi→oi.dst=some d→∀ (k:Nat) (ok:Oper),ops[k]?=some ok→k≠i→ok.dst≠some d∧(k≠j→d∈ok.looksAt ops→Bef md ops j k)
 n1:∀ i j j':Nat,NewOp brk i j→NewOp brk i j'→j=j'
 n2:∀ i i' j:Nat,NewOp brk i j→NewOp brk i' j→i=i'
structure Ordered(md:Region.Mode)(ops:Array Oper)(light heavy brk:Nat→Bool):Prop extends Ord0 md ops light heavy brk where
 hh:∀ i j:Nat,i<j→heavy i=true→heavy j=true→j<ops.size→Bef md ops i j
theorem Kgf{listed:Array Bool}{k:Nat}(hsz:listed.size=ops.size)(h:listed.getD k true=false):k<ops.size:=by
 rcases Nat.lt_or_ge k listed.size with hl | hl
 ·omega
 simp[Array.getElem?_eq_none hl] at h
theorem Kgg{hp hp':List Ob}{listed:Array Bool}{j:Nat}(hO:Ord0 md ops light heavy brk)(hsz:listed.size=ops.size)(hs:Shut md ops listed)(hj:j∈Region.ready md ops listed)(hk:Keeps hpL light listed hp)(hb:brk j=false→Stays hpL hp→Stays hpL hp'):Keeps hpL light (listed.setIfInBounds j true) hp':=by
 rintro⟨k,hl,hu⟩
 have hne:j≠k:=fun e=>by
  subst e
  have hlt:=Kgf (ops:=ops) (by simpa using hsz) hu
  simp[hsz,hlt] at hu
 rw[getD_set_ne true hne] at hu
 cases hbj:brk j with
 | false=>exact hb hbj (hk ⟨k,hl,hu⟩)
 | true=>
  exfalso
  have hjl:j<ops.size:=by
   obtain⟨_,o,ho,_⟩:=mem_ready.1 hj
   exact(aEs.1 ho).1
  obtain⟨_,o,ho,hall⟩:=mem_ready.1 hj
  exact Kgd hu ((hO.lb k j hl hbj (Kgf hsz hu) hjl).listed hs fun o' ho'=>by rw[ho] at ho';cases ho';exact hall)
theorem Kgh(hO:Ord0 md ops light heavy brk){i j:Nat}{oi oj:Oper}(hij:i≠j)(hi:ops[i]?=some oi)(hj:ops[j]?=some oj)(hap:oi.apart ops oj=true)(hni:¬ Bef md ops i j)(hnj:¬ Bef md ops j i)
  {F1 F2:FF} {hp1 hp2 hp3 hp4:List Ob} {x y:Option Tmp} {g g':G} (hx:YE P N hpL light heavy brk ops i oi F1 hp1 x g hp2) (hy:YE P N hpL light heavy brk ops j oj F2 hp3 y g' hp4) :
  (∀ d,x=some d→d ∉ oj.looksAt ops)∧(∀ d,x=some d→y≠some d)∧(∀ d,y=some d→d ∉ oi.looksAt ops):=by
 obtain⟨a1,a2,a3⟩:=Oper.apart_spec hap
 rcases hx.slot with rfl | ⟨i0,d0,o0,rfl,c1,c2,c3⟩
 ·rcases hy.slot with rfl | ⟨j0,e0,q0,rfl,b1,b2,b3⟩
  ·exact⟨a1,a2,a3⟩
  ·have hne:i≠j0:=fun e=>by subst e;exact hni (hO.nb _ _ b1)
   obtain⟨k1,k2⟩:=hO.nd j0 j q0 e0 b1 b2 b3 i oi hi hne
   refine⟨a1,fun d hd he=>?_,fun d hd he=>?_⟩
   ·cases he;exact k1 hd
   ·cases hd;exact hnj (k2 hij he)
 ·have hne:j≠i0:=fun e=>by subst e;exact hnj (hO.nb _ _ c1)
  obtain⟨k1,k2⟩:=hO.nd i0 i o0 d0 c1 c2 c3 j oj hj hne
  rcases hy.slot with rfl | ⟨j0,e0,q0,rfl,b1,b2,b3⟩
  ·refine⟨fun d hd he=>?_,fun d hd he=>?_,a3⟩
   ·cases hd;exact hni (k2 (Ne.symm hij) he)
   ·cases hd;exact k1 he
  ·have hne':i≠j0:=fun e=>by subst e;exact hni (hO.nb _ _ b1)
   obtain⟨m1,m2⟩:=hO.nd j0 j q0 e0 b1 b2 b3 i oi hi hne'
   refine⟨fun d hd he=>?_,fun d hd he=>?_,fun d hd he=>?_⟩
   ·cases hd;exact hni (k2 (Ne.symm hij) he)
   ·have hde:e0=d0:=oSi (he.trans hd.symm)
    have hjj:j0≠i0:=fun e=>by
     subst e
     exact hij (hO.n1 _ _ _ c1 b1)
    exact(hO.nd i0 i o0 d0 c1 c2 c3 j0 q0 b2 hjj).1 (hde▸b3)
   ·cases hd;exact hnj (m2 hij he)
theorem Kgi{QF:FF→List Ob→Prop}{i:Nat}{oi:Oper}{xi:Option Tmp}{gi:G}(hO:Ord0 md ops light heavy brk)(hH:heavy i=true→∀ j,i<j→heavy j=true→j<ops.size→Bef md ops i j)(hi:ops[i]?=some oi) :
  ∀ (fuel:Nat) (listed:Array Bool) (F:FF) (hp hp1:List Ob),listed.size=ops.size→Shut md ops listed→(heavy i=true→∀ j,j<i→listed.getD j true=true)→Keeps hpL light listed hp→
   (∀ j oj,ops[j]?=some oj→j≠i→listed.getD j true=false→(∀ e∈oj.after,Region.binds md e=true→e.on≠i)→oi.apart ops oj=true)→
   i∈Region.ready md ops listed→YE P N hpL light heavy brk ops i oi F hp xi gi hp1→
   anyE P N hpL light heavy brk md ops QF fuel (listed.setIfInBounds i true) (F.put xi gi) hp1→anyE P N hpL light heavy brk md ops QF (fuel+1) listed F hp:=by
 intro fuel
 induction fuel with
 | zero=>
  intro listed F hp hp1 hsz hs hpre hk _ hr hy H
  refine⟨fun h=>(by rw[h] at hr;cases hr),fun j hj=>?_⟩
  by_cases hji:j=i
  ·subst hji;unfold gOpE;simp only[hi];exact⟨xi,gi,hp1,hy,fun hl=>hk ⟨j,hl,(mem_ready.1 hr).1⟩,H⟩
  ·have:=ready_mono hj hji
   rw[H.1] at this
   cases this
 | succ fuel ih=>
  intro listed F hp hp1 hsz hs hpre hk hfree hr hy H
  refine⟨fun h=>(by rw[h] at hr;cases hr),fun j hj=>?_⟩
  by_cases hji:j=i
  ·subst hji;unfold gOpE;simp only[hi];exact⟨xi,gi,hp1,hy,fun hl=>hk ⟨j,hl,(mem_ready.1 hr).1⟩,H⟩
  ·have h1:=H.2 j (ready_mono hj hji)
   obtain⟨hjun,oj,hoj,hall⟩:=mem_ready.1 hj
   obtain⟨hiun,oi',hoi',halli⟩:=mem_ready.1 hr
   rw[hi] at hoi';cases hoi'
   have hjl:j<ops.size:=(aEs.1 hoj).1
   have hnot:∀ e∈oj.after,Region.binds md e=true→e.on≠i:=fun e he hb heq=>Kgd hiun (heq▸hall e he hb)
   have hap:=hfree j oj hoj hji hjun hnot
   have hni:¬ Bef md ops i j:=fun h=>Kgd hiun (h.listed hs fun o' ho'=>by rw[hoj] at ho';cases ho';exact hall)
   have hnj:¬ Bef md ops j i:=fun h=>Kgd hjun (h.listed hs fun o' ho'=>by rw[hi] at ho';cases ho';exact halli)
   have hfree':∀ k ok,ops[k]?=some ok→k≠i→(listed.setIfInBounds j true).getD k true=false→
     (∀ e∈ok.after,Region.binds md e=true→e.on≠i)→oi.apart ops ok=true:=fun k ok hk' hki hun hno=>by
    refine hfree k ok hk' hki ?_ hno
    by_cases hjk:j=k
    ·subst hjk;exact hjun
    ·rw[getD_set_ne true hjk] at hun;exact hun
   have hsz':(listed.setIfInBounds j true).size=ops.size:=by simpa using hsz
   have hpre':heavy i=true→∀ k,k<i→(listed.setIfInBounds j true).getD k true=true:=fun hv k hk'=>by
    by_cases hjk:j=k
    ·subst hjk
     have:=hpre hv j hk'
     rw[this] at hjun;cases hjun
    ·rw[getD_set_ne true hjk];exact hpre hv k hk'
   unfold gOpE at h1 ⊢
   simp only[hoj] at h1 ⊢
   obtain⟨xj,gj,hpj,hyj,hst,hK⟩:=h1
   obtain⟨a1,a2,a3⟩:=Kgh hO (Ne.symm hji) hi hoj hap hni hnj hy hyj
   rw[Array.setIfInBounds_comm _ _ (Ne.symm hji),FF.put_comm F gi gj a2] at hK
   have sj:∀ t,t∈oj.looksAt ops→F t=(F.put xi gi) t:=fun t ht=>by rw[FF.put_other];intro d hd e;subst e;exact a1 _ hd ht
   have si:∀ t,t∈oi.looksAt ops→(F.put xj gj) t=F t:=fun t ht=>by rw[FF.put_other];intro d hd e;subst e;exact a3 _ hd ht
   rcases hy.kind with⟨rfl,hyi⟩ | ⟨hhi,hbi⟩
   ·have hyj':=hyj.of_same sj
    refine⟨xj,gj,hpj,hyj',fun hl=>hk ⟨j,hl,hjun⟩,ih _ _ _ _ hsz' (Kge hs hj) hpre' (Kgg hO hsz hs hj hk ?_) hfree' (ready_mono hr (Ne.symm hji)) ((hyi hpj).of_same si) hK⟩
    rcases hyj.kind with⟨rfl,_⟩ | ⟨_,hb⟩
    ·exact fun _ h=>h
    ·exact hb
   ·rcases hyj.kind with⟨rfl,hyj'⟩ | ⟨hhj,hbj⟩
    ·exact⟨xj,gj,hp,(hyj' hp).of_same sj,fun hl=>hk ⟨j,hl,hjun⟩,ih _ _ _ _ hsz' (Kge hs hj) hpre' (Kgg hO hsz hs hj hk fun _ h=>h) hfree' (ready_mono hr (Ne.symm hji)) (hy.of_same si) hK⟩
    ·exfalso
     have hij:i<j:=by
      rcases Nat.lt_or_ge j i with h | h
      ·rw[hpre hhi j h] at hjun;cases hjun
      ·omega
     exact Kgd hiun ((hH hhi j hij hhj hjl).listed hs fun o' ho'=>by rw[hoj] at ho';cases ho';exact hall)
def lexE(P:Program)(N:Nat)(hpL:List Ob)(light heavy brk:Nat→Bool)(ops:Array Oper)(QF:FF→List Ob→Prop):Nat→List Oper→FF→List Ob→Prop
 | _,[],F,hp=>QF F hp
 | k,o :: rest,F,hp=>∃ x g hp',YE P N hpL light heavy brk ops k o F hp x g hp'∧lexE P N hpL light heavy brk ops QF (k+1) rest (F.put x g) hp'
theorem Kgj{QF:FF→List Ob→Prop}(hO:Ordered md ops light heavy brk):∀ (l:List Oper) (k:Nat) (listed:Array Bool) (F:FF) (hp:List Ob),(∀ j,l[j]?=ops[k+j]?)→listed.size=ops.size→Shut md ops listed→(∀ j,j<k→listed.getD j true=true)→Keeps hpL light listed hp→
  Region.lexFrom md ops l.length k listed=true→lexE P N hpL light heavy brk ops QF k l F hp→anyE P N hpL light heavy brk md ops QF l.length listed F hp
 | [],_,_,_,_,_,_,_,_,_,hB,h=>⟨by simpa [Region.lexFrom] using hB,h⟩
 | o :: l,k,listed,F,hp,hl,hsz,hs,hpre,hk,hB,h=>by
  have h0:ops[k]?=some o:=by simpa using (hl 0).symm
  simp only[List.length_cons,Region.lexFrom,Bool.and_eq_true] at hB
  obtain⟨⟨hr,hf⟩,hB'⟩:=hB
  have hr':k∈Region.ready md ops listed:=by simpa using hr
  obtain⟨x,g,hp',hy,hK⟩:=h
  refine Kgi hO.toOrd0 (fun hv j hij hj hjl=>hO.hh k j hij hv hj hjl) h0 l.length listed F hp hp' hsz hs (fun _=>hpre) hk (Region.free_spec h0 hf) hr' hy (Kgj hO l (k+1) _ _ _ (fun j=>by have:=hl (j+1);simpa [Nat.add_assoc,Nat.add_comm 1 j] using this) (by simpa using hsz) (Kge hs hr') (fun j hj=>?_) (Kgg hO.toOrd0 hsz hs hr' hk ?_) hB' hK)
  ·by_cases hjk:k=j
   ·subst hjk
    rcases Nat.lt_or_ge k listed.size with hl' | hl'
    ·simp[hl']
    ·simp[Array.getElem?_eq_none hl']
   ·rw[getD_set_ne true hjk];exact hpre j (by omega)
  ·rcases hy.kind with⟨rfl,_⟩ | ⟨_,hb⟩
   ·exact fun _ h=>h
   ·exact hb
def zB(Z:Env)(B:List Nat):Env:=⟨fun b=>Z.z b∨b∈B,fun b=>Z.v b∨b∈B,fun b h=>h.imp (Z.hv b) id,Z.x,fun w w' h hx=>Z.st w w' (fun b hb=>h b (.inl hb)) hx,Z.ax⟩
theorem Kgk(n k:Nat):(Array.replicate n false).getD k false=false:=by
 unfold Array.getD
 split<;>simp
theorem RelF.zB0{Z:Env}{hp:List Ob}{M:Mp}{w:World}{F:FF}{a:Act}(h:RelF Z hp M w F a N):RelF (zB Z []) hp M w F a N:=by
 have e:ownZ (zB Z []) hp M=ownZ Z hp M:=Koh (fun b=>by
  show own hp M b∨(Z.v b∨b∈[]) ↔ own hp M b∨Z.v b
  simp) rfl
 refine⟨⟨h.heap.len,fun i o m h1 h2=>by rw[e];exact h.heap.obj i o m h1 h2,fun b hb hz=>h.heap.apart b hb (hz.elim id fun h=>by cases h),fun b hb=>h.heap.old b (hb.elim id fun h=>by cases h),h.heap.amb,h.heap.inj,h.heap.bags⟩,fun t g hg=>by rw[e];exact h.fr t g hg,h.size,h.defers⟩
theorem Lays.eq{o:Oper}{t t':TypeId}{cs cs':Array Value}(h:Lays P o t cs)(h':Lays P o t' cs')(w:World):Obj.cells cs t (0,0)=Obj.cells cs' t' (0,0):=by
 have h1:=h (fun _=>undef) w
 rw[h' (fun _=>undef) w] at h1
 have h2:w.alloc (.cells cs' t')=w.alloc (.cells cs t):=by
  injection h1
 have h3:=heap_alloc_new w (.cells cs t)
 rw[←h2,heap_alloc_new w (.cells cs' t')] at h3
 exact(oSi h3).symm
structure Pend(P:Program)(ops:Array Oper)(brk:Nat→Bool)(Z:Env)(s0:Nat)(listed:Array Bool)(L:List (Nat×Nat))(M:Mp)(a:Act)(w:World):Prop where
 nd:(L.map (·.2)).Nodup
 all:∀ i j,NewOp brk i j→listed.getD i false=true→listed.getD j true=false→∃ b,(i,b)∈L
 val:∀ p∈L,s0≤p.2∧¬ Z.z p.2∧(∀ x:Tg,some x∈M.h→x.b≠p.2)∧listed.getD p.1 false=true∧(∃ j,NewOp brk p.1 j)∧∃ (oi:Oper) (d:Tmp) (t:TypeId) (cs:Array Value),ops[p.1]?=some oi∧oi.dst=some d∧Lays P oi t cs∧a.tmps[d]?=some (.pointer (some ⟨p.2,0,none⟩))∧w.heap[p.2]?=some (.cells cs t (0,0))
theorem Kgl{hp:List Ob}{M:Mp}{o:Ob}{b c:Nat}(hl:M.l.length=hp.length)(ho:o.isBag=false)(hlv:o.live=true)(k:Nat):own (hp++[o]) (M.app [some (b,c)]) k ↔ own hp M k∨k=b:=by
 constructor
 ·rintro(⟨i,q,c',h1,h2,h3⟩ | ⟨hg,hx⟩)
  ·rcases Kqj h3 with⟨hi,h4⟩ | ⟨hi,h4⟩
   ·rcases Kqj h1 with⟨_,h5⟩ | ⟨hi',_⟩
    ·exact .inl (.inl ⟨i,q,c',h5,h2,h4⟩)
    omega
   cases h4;exact .inr rfl
  exact .inl (.inr ⟨hg.of (Kof ho),hx⟩)
 rintro((⟨i,q,c',h1,h2,h3⟩ | ⟨hg,hx⟩) | rfl)
 ·exact .inl ⟨i,q,c',by rw[gAl (gEs.1 h1).1];exact h1,h2,by rw[Mp.app_l',gAl (Mp.lt h3)];exact h3⟩
 ·exact .inr ⟨hg.app,hx⟩
 exact .inl ⟨hp.length,o,c,by simp,hlv,by rw[Mp.app_l',←hl];simp⟩
theorem RelH.claim{Z:Env}{hp:List Ob}{M:Mp}{w:World}{B B':List Nat}{b:Nat}{t:TypeId}{cs:Array Value}{gs:List G}(hr:RelH (zB Z B) hp M w)(hB:∀ x,x∈B ↔ x=b∨x∈B')(hb:b ∉ B')(hz:¬ Z.z b)(ht:∀ x:Tg,some x∈M.h→x.b≠b)
  (hh:w.heap[b]?=some (.cells cs t (0,0))) (hsz:cs.size=gs.length) (hc:∀ w O M,CellsR w O M cs gs):RelH (zB Z B') (hp++[.box t gs]) (M.app [some (b,0)]) w∧ownZ (zB Z B') (hp++[.box t gs]) (M.app [some (b,0)])=ownZ (zB Z B) hp M:=by
 have hO:ownZ (zB Z B') (hp++[.box t gs]) (M.app [some (b,0)])=ownZ (zB Z B) hp M:=by
  refine Koh (fun k=>?_) rfl
  rw[Kgl hr.len rfl rfl]
  show(own hp M k∨k=b)∨(Z.v k∨k∈B') ↔ own hp M k∨(Z.v k∨k∈B)
  rw[hB]
  constructor
  ·rintro((h | h) | (h | h))
   ·exact .inl h
   ·exact .inr (.inr (.inl h))
   ·exact .inr (.inl h)
   ·exact .inr (.inr (.inr h))
  ·rintro(h | (h | (h | h)))
   ·exact .inl (.inl h)
   ·exact .inr (.inl h)
   ·exact .inl (.inr h)
   ·exact .inr (.inr h)
 have hbz:(zB Z B).z b:=.inr ((hB b).2 (.inl rfl))
 have hbo:¬ own hp M b:=fun h=>hr.apart b h hbz
 have hM:∀ i,i<M.l.length→(M.app [some (b,0)]).l[i]?=M.l[i]?:=fun i hi=>gAl hi
 have hst:Stp w (ownZ (zB Z B) hp M) w (ownZ (zB Z B') (hp++[.box t gs]) (M.app [some (b,0)])):=by rw[hO];exact .refl _ _
 have hobn:∀ x:Tg,some x∈M.h→obOwn (hp++[.box t gs]) (M.app [some (b,0)]) x.b→obOwn hp M x.b:=by
  rintro x hx' ⟨i,o,c,h1,h2,h3⟩
  rcases Kqj h3 with⟨hi,h4⟩ | ⟨_,h4⟩
  ·rcases Kqj h1 with⟨_,h5⟩ | ⟨hi',_⟩
   ·exact⟨i,o,c,h5,h2,h4⟩
   ·rw[hr.len] at hi;omega
  ·cases h4;exact absurd rfl (ht x hx')
 refine⟨⟨by simp[hr.len],fun i o m h1 h2=>?_,fun k hk hz'=>?_,fun k hk=>hr.old k (hk.imp id fun h=>(hB k).2 (.inr h)),hr.amb,fun i j oi oj k c c' hi hj li lj mi mj=>?_,⟨fun x hx=>⟨(hr.bags.tgs x hx).1,fun hz0 h=>(hr.bags.tgs x hx).2 hz0 (hobn x hx h)⟩,fun i j al al' ar ar' lt lt' hi hj=>hr.bags.one i j al al' ar ar' lt lt' (Kof rfl i al ar lt hi) (Kof rfl j al' ar' lt' hj),fun i al ar lt hi t x hx h=>hr.bags.lnd i al ar lt (Kof rfl i al ar lt hi) t x hx (hobn x (mOg hx) h),hr.bags.hds⟩⟩,hO⟩
 ·rcases Kqj h1 with⟨hi,h3⟩ | ⟨hi,rfl⟩
  ·have hi':i<M.l.length:=by rw[hr.len];exact hi
   rw[hM i hi'] at h2
   have:=hr.obj i o m h3 h2
   exact this.move (k:=M.l.length) hst hM this.bel (fun _ _ _ _=>rfl) (fun _ _ _ _=>⟨rfl,fun _ _ _=>rfl⟩)
  ·subst hi
   rw[←hr.len] at h2
   have:m=some (b,0):=by
    rcases Kqj h2 with⟨hi,_⟩ | ⟨_,h⟩
    ·omega
    ·exact h.symm
   subst this
   exact⟨cs,hh,hsz,hc _ _ _⟩
 ·rcases(Kgl hr.len rfl rfl k).1 hk with h | rfl
  ·exact hr.apart k h (hz'.imp id fun h=>(hB k).2 (.inr h))
  ·exact hz'.elim hz hb
 ·rcases Kqj hi with⟨hi1,hi2⟩ | ⟨hi1,hi2⟩
  ·rcases Kqj hj with⟨hj1,hj2⟩ | ⟨hj1,hj2⟩
   ·rw[hM i (by rw[hr.len];exact hi1)] at mi
    rw[hM j (by rw[hr.len];exact hj1)] at mj
    exact hr.inj i j oi oj k c c' hi2 hj2 li lj mi mj
   ·exfalso
    rw[hM i (by rw[hr.len];exact hi1)] at mi
    rcases Kqj mj with⟨h,_⟩ | ⟨_,h⟩
    ·rw[hr.len] at h;omega
    ·cases h
     exact hbo (.inl ⟨i,oi,c,hi2,li,mi⟩)
  ·rcases Kqj hj with⟨hj1,hj2⟩ | ⟨hj1,hj2⟩
   ·exfalso
    rw[hM j (by rw[hr.len];exact hj1)] at mj
    rcases Kqj mi with⟨h,_⟩ | ⟨_,h⟩
    ·rw[hr.len] at h;omega
    ·cases h
     exact hbo (.inl ⟨j,oj,c',hj2,lj,mj⟩)
   ·omega
theorem Kgm{Z:Env}{F0:Nat}{M0:Mp}{w0:World}{O0:Ow}{QF:FF→List Ob→Prop}{Q:Exit→Act→World→Prop}(hO:Ord0 md ops light heavy brk)(hQ:∀ F a w hp M,QF F hp→RelF Z hp M w F a N→Stp w0 O0 w (own hp M)→Agr F0 M0 M→F0≤hp.length→Q .normal a w) :
  ∀ (fuel:Nat) (listed:Array Bool) (F:FF) (hp:List Ob) (M:Mp) (a:Act) (w:World) (L:List (Nat×Nat)),RelF (zB Z (L.map (·.2))) hp M w F a N→Pend P ops brk Z w0.heap.size listed L M a w→listed.size=ops.size→Shut md ops listed→Stp w0 O0 w (own hp M)→Agr F0 M0 M→F0≤hp.length→anyE P N hpL light heavy brk md ops QF fuel listed F hp→wpAny P md ops Q fuel listed a w:=by
 have fin:∀ (F:FF) (hp:List Ob) (M:Mp) (a:Act) (w:World) (L:List (Nat×Nat)),RelF (zB Z (L.map (·.2))) hp M w F a N→Stp w0 O0 w (own hp M)→Agr F0 M0 M→F0≤hp.length→QF F hp→Q .normal a w:=fun F hp M a w L hr hs ha hF hq=>by
  have hst:Stp w (ownZ (zB Z (L.map (·.2))) hp M) w (ownZ Z hp M):=.still (fun b _ h=>h.imp id fun h=>.inl h) rfl (fun _=>trivial)
  refine hQ F a w hp M hq ⟨⟨hr.heap.len,fun i o m h1 h2=>?_,fun b hb hz=>hr.heap.apart b hb (.inl hz),fun b hb=>hr.heap.old b (.inl hb),hr.heap.amb,hr.heap.inj,hr.heap.bags⟩,fun t g hg=>let ⟨v,e1,e2⟩:=hr.fr t g hg;⟨v,e1,e2.step hst (fun _ _=>rfl)⟩,hr.size,hr.defers⟩ hs ha hF
  have:=hr.heap.obj i o m h1 h2
  exact this.move (k:=M.l.length) hst (fun _ _=>rfl) this.bel (fun _ _ _ _=>rfl) (fun _ _ _ _=>⟨rfl,fun _ _ _=>rfl⟩)
 intro fuel
 induction fuel with
 | zero=>intro listed F hp M a w L hr hp2 hsz hs0 hs ha hF h;exact⟨h.1,fin F hp M a w L hr hs ha hF h.2⟩
 | succ fuel ih0=>
  intro listed F hp M a w L hr hpd hsz hshut hs ha hF h
  refine⟨fun h0=>fin F hp M a w L hr hs ha hF (h.1 h0),fun i hi=>?_⟩
  have hh:=h.2 i hi
  obtain⟨hiun,oi,hoi,halli⟩:=mem_ready.1 hi
  have hil:i<ops.size:=(aEs.1 hoi).1
  have hsz':(listed.setIfInBounds i true).size=ops.size:=by simpa using hsz
  have hshut':=Kge hshut hi
  have ih:=fun F hp M a w L hr hpd=>ih0 (listed.setIfInBounds i true) F hp M a w L hr hpd hsz' hshut'
  unfold gOpE at hh
  unfold wpOp
  simp only[hoi] at hh ⊢
  obtain⟨x,g,hp',hy,hst,hK⟩:=hh
  have hlne:∀ k,listed.getD k false=true→k≠i:=fun k hk e=>by subst e;exact Kgd hiun hk
  have setF:∀ k,listed.getD k false=true→(listed.setIfInBounds i true).getD k false=true:=fun k hk=>getD_set_true hk
  have keepL:∀ (L':List (Nat×Nat)) (hp1:List Ob) (M1 M':Mp) (a':Act) (w':World),(∀ p∈L',p∈L)→(L'.map (·.2)).Nodup→(∀ q j,q≠i→NewOp brk q j→listed.getD q false=true→(listed.setIfInBounds i true).getD j true=false→∃ b,(q,b)∈L')→(∀ j,¬ NewOp brk i j)→
    RelH (zB Z (L'.map (·.2))) hp1 M1 w→M1.h=M.h→Stp w (own hp1 M1) w' (own hp' M')→(∀ d:Tmp,oi.dst≠some d→a'.tmps[d]?=a.tmps[d]?)→Pend P ops brk Z w0.heap.size (listed.setIfInBounds i true) L' M' a' w':=fun L' hp1 M1 M' a' w' hsub hnd hall hni hr1 hM1 hst1 ha'=>by
   refine⟨hnd,fun q j hn hq hj=>?_,fun p hpL'=>?_⟩
   ·have hqi:q≠i:=fun e=>by subst e;exact hni j hn
    refine hall q j hqi hn ?_ hj
    rwa [getD_set_ne false (Ne.symm hqi)] at hq
   ·obtain⟨k1,k2,k3,k4,k5,oq,d,t,cs,k6,k7,k8,k9,k10⟩:=hpd.val p (hsub p hpL')
    have hb:(zB Z (L'.map (·.2))).z p.2:=.inr (List.mem_map_of_mem hpL')
    have hlt:=hr1.old _ hb
    have hno:¬ own hp1 M1 p.2:=fun h=>hr1.apart _ h hb
    refine⟨k1,k2,fun x hx=>?_,setF _ k4,k5,oq,d,t,cs,k6,k7,k8,?_,(hst1.keep _ hlt hno).trans k10⟩
    ·obtain⟨e,he,h5⟩:=hst1.tg
     have he':M'.h=M.h++e:=by rw[←hM1];exact he
     rw[he'] at hx
     rcases List.mem_append.1 hx with hx | hx
     ·exact k3 x hx
     ·intro hxb
      exact hno (hxb▸h5 x hx (by rw[hxb];exact hlt))
    ·obtain⟨j,hj⟩:=k5
     rw[ha' d ((hO.nd p.1 j oq d hj k6 k7 i oi hoi (Ne.symm (hlne _ k4))).1)]
     exact k9
  have gd:∀ (F:FF) j want b,(∀ t g,F t=some g→∃ v,a.tmps[t]?=some v∧∃ (O:Ow) (M:Mp),VR w O M g v)→F.guard ops j want=some b→(yielded ops a.tmps j==some want)=b:=fun F j want b hfr hb=>by
   unfold FF.guard at hb
   unfold yielded
   cases ht:(ops[j]?).bind (·.dst) with
   | none=>rw[ht] at hb;simp at hb
   | some t=>
    rw[ht] at hb
    simp only[Option.bind_some] at hb ⊢
    cases hg:F t with
    | none=>rw[hg] at hb;simp at hb
    | some g0=>
     obtain⟨v,hv,_,_,hvr⟩:=hfr t g0 hg
     rw[hg] at hb
     rw[hv]
     split at hb
     ·rename_i b' e
      cases e
      rw[vr_v hvr]
      simpa using hb
     ·rename_i e
      cases e
      cases hvr with
      | tup hl _=>simpa using hb
     ·cases hb
  have wanted:∀ F:FF,(∀ t g,F t=some g→∃ v,a.tmps[t]?=some v∧∃ (O:Ow) (M:Mp),VR w O M g v)→Okd F ops oi→Region.wanted oi (yielded ops a.tmps)=true:=fun F hfr h1=>by
   unfold Region.wanted
   rcases h1 with h1 | ⟨j,want,e1,e2⟩
   ·rw[h1]
   ·rw[e1];exact gd F j want true hfr e2
  have put:∀ (Z1:Env) (F1:FF) (hp1:List Ob) (M1:Mp) g v w' M',RelF Z1 hp1 M1 w F1 a N→(∀ d,oi.dst=some d→d<N)→RelH Z1 hp' M' w'→VR w' (ownZ Z1 hp' M') M' g v→Stp w (own hp1 M1) w' (own hp' M')→Agr hp1.length M1 M'→RelF Z1 hp' M' w' (F1.put oi.dst g) (a.put oi.dst v) N:=fun Z1 F1 hp1 M1 g v w' M' hr hd h1 h2 h3 h4=>by
   have st:∀ {g v},VR w (ownZ Z1 hp1 M1) M1 g v→VR w' (ownZ Z1 hp' M') M' g v:=fun h=>h.step (Koi Z1 h3) (fun i hi=>h4.eq i (by rw[←hr.heap.len];exact hi))
   cases hdst:oi.dst with
   | none=>exact⟨h1,fun t g' hg=>let ⟨v,e1,e2⟩:=hr.fr t g' hg;⟨v,e1,st e2⟩,hr.size,hr.defers⟩
   | some d=>
    refine⟨h1,fun t g' hg=>?_,by simp[Act.put,hr.size],hr.defers⟩
    simp only[FF.put] at hg
    by_cases hdt:d=t
    ·subst hdt
     simp at hg
     subst hg
     exact⟨v,by simp[Act.put,hr.size,hd d hdst],h2⟩
    ·rw[if_neg hdt] at hg
     obtain⟨v',e1,e2⟩:=hr.fr t g' hg
     exact⟨v',by simp only[Act.put];rw[Array.getElem?_setIfInBounds_ne hdt];exact e1,st e2⟩
  have puta:∀ (v:Value) (d:Tmp),oi.dst≠some d→(a.put oi.dst v).tmps[d]?=a.tmps[d]?:=fun v d hd=>by
   cases hdst:oi.dst with
   | none=>rfl
   | some e=>simp only[Act.put];rw[Array.getElem?_setIfInBounds_ne (fun h=>hd (by rw[hdst,h]))]
  have sameAll:∀ q j,q≠i→NewOp brk q j→listed.getD q false=true→(listed.setIfInBounds i true).getD j true=false→∃ b,(q,b)∈L:=fun q j _ hn hq hj=>by
   refine hpd.all q j hn hq ?_
   by_cases hij:i=j
   ·subst hij
    have:i<listed.size:=by omega
    simp[this] at hj
   ·rwa [getD_set_ne true hij] at hj
  have step:∀ (L':List (Nat×Nat)) (F1:FF) (hp1:List Ob) (M1:Mp) (g1:G),RelF (zB Z (L'.map (·.2))) hp1 M1 w F1 a N→M1.h=M.h→(∀ p∈L',p∈L)→(L'.map (·.2)).Nodup→(∀ q j,q≠i→NewOp brk q j→listed.getD q false=true→(listed.setIfInBounds i true).getD j true=false→∃ b,(q,b)∈L')→(∀ j,¬ NewOp brk i j)→
    Stp w0 O0 w (own hp1 M1)→Agr F0 M0 M1→F0≤hp1.length→F.put x g=F1.put oi.dst g1→∀ fr:Fr,(∀ d,oi.dst=some d→d<N)→Okd F1 ops oi→hp1.length≤hp'.length→(∀ t g',fr.get t=some g'→t∈oi.looksAt ops∧F1 t=some g')→QtE P N oi fr hp1 g1 hp'→
    (if Region.wanted oi (yielded ops a.tmps) then oi.wp P a w (wpAny P md ops Q fuel (listed.setIfInBounds i true)) Q∨(oi.asks P a w∧LetsOut Q) else wpAny P md ops Q fuel (listed.setIfInBounds i true) (a.put oi.dst undef) w):=fun L' F1 hp1 M1 g1 hr1 hMh hsub hnd hall hni hs1 ha1 hF1 hFe fr hd h1 hl h2 h3=>by
   rw[wanted F1 (fun t g hg=>let ⟨v,e1,e2⟩:=hr1.fr t g hg;⟨v,e1,_,_,e2⟩) h1]
   simp only[if_true]
   refine .inl (h3 _ w M1 a ⟨hr1.heap,fun t g' hg=>hr1.fr t g' (h2 t g' hg).2,hr1.size,hr1.defers⟩ _ _ fun v w' M' r1 r2 r3 r4=>?_)
   refine ih _ hp' M' _ _ L' ?_ (keepL L' hp1 M1 M' _ w' hsub hnd hall hni hr1.heap hMh r3 (puta v)) (hs1.trans r3) (ha1.trans r4 hF1) (by omega) hK
   rw[hFe]
   exact put _ F1 hp1 M1 g1 v w' M' hr1 hd r1 r2 r3 r4
  rcases hy with⟨⟨hd,hy⟩,rfl,rfl,hni⟩ | ⟨⟨j,d,t,cs,hn,hdst,hdN,hg0,hlay⟩,rfl,rfl,e4⟩ | ⟨_,⟨hd,h1,hl,fr,h2,h3⟩,rfl,hni,_⟩ | ⟨_,hc,hni,_⟩
  ·rcases hy with⟨j,want,h1,h2,rfl⟩ | ⟨h1,fr,h2,h3⟩
   ·have hw:Region.wanted oi (yielded ops a.tmps)=false:=by unfold Region.wanted;rw[h1];exact gd F j want false (fun t g hg=>let ⟨v,e1,e2⟩:=hr.fr t g hg;⟨v,e1,_,_,e2⟩) h2
    rw[hw]
    exact ih _ _ M _ _ L (put _ F _ M _ _ w M hr hd hr.heap (.tup rfl fun _ _ _ h _=>by simp at h) (.refl _ _) ⟨Nat.le_of_eq hr.heap.len.symm,fun _ _=>rfl⟩) (keepL L _ M M _ w (fun _ h=>h) hpd.nd sameAll hni hr.heap rfl (.refl _ _) (puta _)) hs ha hF hK
   ·exact step L F _ M g hr rfl (fun _ h=>h) hpd.nd sameAll hni hs ha hF rfl fr hd h1 (Nat.le_refl _) h2 (h3 _ hst)
  ·
   have e5:=e4.symm
   subst e5
   have hw:Region.wanted oi (yielded ops a.tmps)=true:=by unfold Region.wanted;rw[hg0]
   rw[hw]
   simp only[if_true]
   left
   unfold Oper.wp
   rw[hlay,Oper.upon_value]
   have hold:∀ k,k<w.heap.size→(w.alloc (.cells cs t)).heap[k]?=w.heap[k]?:=fun k hk=>Kbb w _ k hk
   have htags:∀ x:Tg,some x∈M.h→(w.alloc (.cells cs t)).heap[x.b]?=w.heap[x.b]?:=fun x hx=>hold _ (hr.heap.bags.tgs x hx).1
   have hst0:Stp w (own hp M) (w.alloc (.cells cs t)) (own hp M):=.mk' (by simp) (fun k hk _=>hold k hk) (fun _ _ h=>h) rfl rfl rfl rfl (fun g=>g) fun x hx _=>htags x hx
   have hstZ:Stp w (ownZ (zB Z (L.map (·.2))) hp M) (w.alloc (.cells cs t)) (ownZ (zB Z (((i,w.heap.size) :: L).map (·.2))) hp M):=.mk' (by simp) (fun k hk _=>hold k hk) (fun k hk h=>by
    rcases h with h | h | h
    ·exact .inl h
    ·exact .inr (.inl h)
    ·rcases List.mem_cons.1 h with h | h
     ·have:k=w.heap.size:=h
      omega
     ·exact .inr (.inr h)) rfl rfl rfl rfl (fun g=>g) fun x hx _=>htags x hx
   have hlb:∀ k,own hp M k→k<w.heap.size:=fun k hk=>hr.heap.block_lt hk
   have hr':RelH (zB Z (((i,w.heap.size) :: L).map (·.2))) hp M (w.alloc (.cells cs t)):=by
    refine⟨hr.heap.len,fun k o m h1 h2=>?_,fun k hk hz=>?_,fun k hk=>?_,hr.heap.amb_stp hst0,hr.heap.inj,hr.heap.bags.mono rfl (by simp) (fun _ _ h=>h) (fun _ _ _ _ h=>h)⟩
    ·have:=hr.heap.obj k o m h1 h2
     refine this.move (k:=M.l.length) hstZ (fun _ _=>rfl) this.bel (fun b c e hl2=>?_) fun _ _ _ _=>⟨rfl,fun x hx _=>htags x hx⟩
     subst e
     exact hold b (hr.heap.block_ob ⟨k,o,c,h1,hl2,h2⟩)
    ·rcases hz with hz | hz
     ·exact hr.heap.apart k hk (.inl hz)
     ·rcases List.mem_cons.1 hz with hz | hz
      ·have:=hlb k hk
       have:k=w.heap.size:=hz
       omega
      ·exact hr.heap.apart k hk (.inr hz)
    ·rcases hk with hk | hk
     ·have:=hr.heap.old k (.inl hk);simp;omega
     ·rcases List.mem_cons.1 hk with hk | hk
      ·have:k=w.heap.size:=hk
       simp;omega
      ·have:=hr.heap.old k (.inr hk);simp;omega
   have hLlt:∀ b,b∈L.map (·.2)→b<w.heap.size:=fun b hb=>hr.heap.old b (.inr hb)
   refine ih _ hp M _ _ ((i,w.heap.size) :: L) ⟨hr',fun t' g' hg=>?_,by simp[Act.put,hr.size,hdst],by rw[hdst];exact hr.defers⟩ ⟨?_,fun q j' hn' hq hj'=>?_,fun p hpm=>?_⟩ (hs.trans hst0) ha hF hK
   ·rw[hdst] at hg ⊢
    simp only[FF.put] at hg
    by_cases hdt:d=t'
    ·subst hdt
     simp at hg
     subst hg
     exact⟨.pointer (some ⟨w.heap.size,0,none⟩),by simp[Act.put,hr.size,hdN],.junk _⟩
    ·rw[if_neg hdt] at hg
     obtain⟨v',e1,e2⟩:=hr.fr t' g' hg
     exact⟨v',by simp only[Act.put];rw[Array.getElem?_setIfInBounds_ne hdt];exact e1,e2.step hstZ (fun _ _=>rfl)⟩
   ·rw[List.map_cons,List.nodup_cons]
    exact⟨fun h=>by have:=hLlt _ h;simp at this,hpd.nd⟩
   ·by_cases hqi:q=i
    ·subst hqi;exact⟨_,mCs⟩
    ·rw[getD_set_ne false (Ne.symm hqi)] at hq
     obtain⟨b,hb⟩:=sameAll q j' hqi hn' hq hj'
     exact⟨b,mCo _ hb⟩
   ·rcases List.mem_cons.1 hpm with rfl | hpm
    ·refine⟨hs.size,fun hz=>?_,fun x hx e=>?_,?_,⟨j,hn⟩,oi,d,t,cs,hoi,hdst,hlay,?_,heap_alloc_new w _⟩
     ·have:=hr.heap.old _ (.inl hz);simp at this
     ·have:=(hr.heap.bags.tgs x hx).1
      have e':x.b=w.heap.size:=e
      omega
     ·have:i<listed.size:=by omega
      simp[this]
     ·rw[hdst];simp[Act.put,hr.size,hdN]
    ·obtain⟨k1,k2,k3,k4,⟨j2,k5⟩,oq,d2,t2,cs2,k6,k7,k8,k9,k10⟩:=hpd.val p hpm
     refine⟨k1,k2,k3,setF _ k4,⟨j2,k5⟩,oq,d2,t2,cs2,k6,k7,k8,?_,(hold _ (hLlt _ (List.mem_map_of_mem hpm))).trans k10⟩
     rw[puta _ d2 ((hO.nd p.1 j2 oq d2 k5 k6 k7 i oi hoi (Ne.symm (hlne _ k4))).1)]
     exact k9
  ·exact step L F hp M g hr rfl (fun _ h=>h) hpd.nd sameAll hni hs ha hF rfl fr hd h1 hl h2 h3
  ·
   obtain⟨i0,d0,o0,t,cs,gs,g',c1,c2,c3,c4,c5,c6,c7,rfl,rfl,c10,⟨hd,h1,hl,fr,h2,h3⟩⟩:=hc
   have hl0:listed.getD i0 false=true:=(hO.nb i0 i c1).listed hshut fun o' ho'=>by rw[hoi] at ho';cases ho';exact halli
   obtain⟨b,hbL⟩:=hpd.all i0 i c1 hl0 hiun
   obtain⟨k1,k2,k3,k4,k5,oq,d2,t2,cs2,k6,k7,k8,k9,k10⟩:=hpd.val _ hbL
   rw[c2] at k6;cases k6
   rw[c3] at k7;cases k7
   have hcell:w.heap[b]?=some (.cells cs t (0,0)):=by rw[k10,c4.eq k8 w]
   let L':=L.filter fun p=>decide (p.1≠i0)
   have hsub:∀ p∈L',p∈L:=fun p hp=>(List.mem_filter.1 hp).1
   have hnd':(L'.map (·.2)).Nodup:=hpd.nd.sublist (List.Sublist.map _ List.filter_sublist)
   have huniq:∀ p∈L,p.2=b→p=(i0,b):=fun p hp e=>by
    have inj:∀ {l:List (Nat×Nat)},(l.map (·.2)).Nodup→∀ p∈l,∀ q∈l,p.2=q.2→p=q:=fun {l}=>by
     induction l with
     | nil=>intro _ p hp;cases hp
     | cons y l ihl=>
      intro hn p hp q hq e
      rw[List.map_cons,List.nodup_cons] at hn
      rcases List.mem_cons.1 hp with rfl | hp'
      ·rcases List.mem_cons.1 hq with rfl | hq'
       ·rfl
       ·exact absurd (e▸List.mem_map_of_mem hq') hn.1
      ·rcases List.mem_cons.1 hq with rfl | hq'
       ·exact absurd (e▸List.mem_map_of_mem hp') hn.1
       ·exact ihl hn.2 p hp' q hq' e
    exact inj hpd.nd p hp _ hbL e
   have hone:∀ p∈L,p.1=i0→p.2=b∨p ∉ L:=fun p hp e=>by
    exact Classical.byContradiction fun hne=>hne (.inr fun _=>hne (.inl (by
     obtain⟨_,_,_,_,_,oq2,d3,t3,cs3,m6,m7,_,m9,_⟩:=hpd.val p hp
     rw[e,c2] at m6;cases m6
     rw[c3] at m7;cases m7
     rw[m9] at k9
     cases k9;rfl)))
   have hB:∀ x,x∈L.map (·.2) ↔ x=b∨x∈L'.map (·.2):=fun x=>by
    constructor
    ·intro hx
     obtain⟨p,hp,rfl⟩:=List.mem_map.1 hx
     by_cases hpi:p.1=i0
     ·rcases hone p hp hpi with h | h
      ·exact .inl h
      ·exact absurd hp h
     ·exact .inr (List.mem_map_of_mem (List.mem_filter.2 ⟨hp,by simpa using hpi⟩))
    ·rintro(rfl | hx)
     ·exact List.mem_map_of_mem hbL
     ·obtain⟨p,hp,rfl⟩:=List.mem_map.1 hx
      exact List.mem_map_of_mem (hsub p hp)
   have hbn:b ∉ L'.map (·.2):=fun hx=>by
    obtain⟨p,hp,e⟩:=List.mem_map.1 hx
    have:=huniq p (hsub p hp) e
    subst this
    have:=(List.mem_filter.1 hp).2
    simp at this
   obtain⟨r1,r2⟩:=hr.heap.claim hB hbn k2 k3 hcell c5 c6
   have hMa:∀ k,k<M.l.length→(M.app [some (b,0)]).l[k]?=M.l[k]?:=fun k hk=>gAl hk
   refine step L' (F.put (some d0) (.ptr hp.length 0)) (hp++[.box t gs]) (M.app [some (b,0)]) g' ⟨r1,fun t' g'' hg=>?_,hr.size,hr.defers⟩ rfl hsub hnd' (fun q j hqi hn hq hj=>?_) hni ⟨hs.size,fun k hk ho=>hs.keep k hk ho,fun k hk ho=>?_,hs.os,hs.tape,hs.output,hs.tg,hs.fz,fun hg=>?_⟩ ?_ (by simp;omega) (by rw[c7];rfl) fr hd h1 hl h2 h3
   ·rw[r2]
    simp only[FF.put] at hg
    by_cases hdt:d0=t'
    ·subst hdt
     simp at hg
     subst hg
     exact⟨_,k9,.ptr (c:=0) (by rw[←hr.heap.len];simp)⟩
    ·rw[if_neg hdt] at hg
     obtain⟨v',e1,e2⟩:=hr.fr t' g'' hg
     exact⟨v',e1,e2.step (.refl _ _) hMa⟩
   ·obtain⟨b',hb'⟩:=sameAll q j hqi hn hq hj
    refine⟨b',List.mem_filter.2 ⟨hb',?_⟩⟩
    have:q≠i0:=fun e=>by
     subst e
     have:=hO.n1 _ _ _ hn c1
     subst this
     have:j<listed.size:=by omega
     simp[this] at hj
    simpa using this
   ·rcases(Kgl hr.heap.len rfl rfl k).1 ho with h | rfl
    ·exact hs.own k hk h
    ·have k1':w0.heap.size≤k:=k1
     omega
   ·exact⟨fun h=>(hs.nb hg).1 (h.of (Kof rfl)),(hs.nb hg).2⟩
   ·exact⟨Nat.le_trans ha.le (by simp),fun k hk=>(hMa k (by have:=ha.le;omega)).trans (ha.eq k hk)⟩
def befB(md:Region.Mode)(ops:Array Oper):Nat→Nat→Nat→Bool
 | 0,_,_=>false
 | n+1,i,j=>match ops[j]? with
  | some o=>o.after.any fun e=>Region.binds md e&&(Nat.beq e.on i||befB md ops n i e.on)
  | none=>false
theorem Kgn:∀ {n i j:Nat},befB md ops n i j=true→Bef md ops i j
 | 0,_,_,h=>by cases h
 | n+1,i,j,h=>by
  simp only[befB] at h
  split at h
  ·rename_i o ho
   rw[Array.any_eq_true'] at h
   obtain⟨e,he,h⟩:=h
   simp only[Bool.and_eq_true,Bool.or_eq_true] at h
   rcases h.2 with h2 | h2
   ·exact .here ho he h.1 (nEq h2)
   exact .far ho he h.1 (Kgn h2)
  cases h
def inL(L:List Nat)(i:Nat):Bool:=L.any (Nat.beq i)
def noNew(bl:List Nat)(k:Nat):Bool:=bl.all fun c=>Nat.blt c 1000||!(Nat.beq (c % 1000) k)
theorem Kgo{bl:List Nat}{k:Nat}(h:noNew bl k=true)(j:Nat):¬ NewOp (inL bl) k j:=by
 rintro⟨h1,h2⟩
 obtain⟨x,hx,e⟩:=List.any_eq_true.1 h2
 have e':=nEq e
 have:=lAe.1 h x hx
 rw[←e'] at this
 simp only[Bool.or_eq_true,Bool.not_eq_true'] at this
 rcases this with this | this
 ·have:=nblt.1 this;omega
 have hm:(k+1000 * (j+1)) % 1000=k:=by omega
 rw[hm,Nat.beq_refl] at this
 cases this
def newB(ops:Array Oper)(bl:List Nat)(c:Nat):Bool:=
 befB .any ops ops.size (c % 1000) (c / 1000 - 1)&&(match ops[c % 1000]? with
  | some oi=>match oi.dst with
   | some d=>(List.range ops.size).all fun k=>Nat.beq k (c % 1000)||(match ops[k]? with
    | some ok=>!(ok.dst==some d)&&(Nat.beq k (c / 1000 - 1)||!((ok.looksAt ops).any (Nat.beq d))||befB .any ops ops.size (c / 1000 - 1) k)
    | none=>true)
   | none=>true
  | none=>true)&&bl.all fun c'=>Nat.blt c' 1000||Nat.beq c c'||!(Nat.beq (c % 1000) (c' % 1000))&&!(Nat.beq (c / 1000) (c' / 1000))
def orderedB(ops:Array Oper)(ll hl bl:List Nat):Bool:=
 (hl.all fun j=>hl.all fun i=>!(Nat.blt i j)||befB .any ops ops.size i j)&&(bl.all fun j=>(!(Nat.blt j 1000)&&Nat.ble ops.size 1000)||ll.all fun i=>befB .any ops ops.size i j)&&bl.all fun c=>Nat.blt c 1000||newB ops bl c
theorem Kgp{L:List Nat}{i:Nat}(h:inL L i=true):i∈L:=by
 obtain⟨x,hx,e⟩:=List.any_eq_true.1 h
 exact nEq e▸hx
theorem Kgq{bl:List Nat}(h:(bl.all fun c=>Nat.blt c 1000||newB ops bl c)=true){i j:Nat}(hn:NewOp (inL bl) i j):newB ops bl (i+1000 * (j+1))=true:=by
 have:=lAe.1 h _ (Kgp hn.2)
 simp only[Bool.or_eq_true] at this
 rcases this with this | this
 ·have:=nblt.1 this;omega
 exact this
theorem Kgr{ll hl bl:List Nat}(h:orderedB ops ll hl bl=true):Ordered .any ops (inL ll) (inL hl) (inL bl):=by
 simp only[orderedB,Bool.and_eq_true] at h
 obtain⟨⟨h1,h2⟩,h3⟩:=h
 have code:∀ {i j:Nat},NewOp (inL bl) i j→(i+1000 * (j+1)) % 1000=i∧(i+1000 * (j+1)) / 1000 - 1=j:=fun hn=>by
  have:=hn.1
  omega
 have code2:∀ {i j:Nat},NewOp (inL bl) i j→(i+1000 * (j+1)) / 1000=j+1:=fun hn=>by
  have:=hn.1
  omega
 have uniq:∀ {i j i' j':Nat},NewOp (inL bl) i j→NewOp (inL bl) i' j'→(i=i'∧j=j')∨(i≠i'∧j≠j'):=fun {i j i' j'} hn hn'=>by
  have:=Kgq h3 hn
  simp only[newB,Bool.and_eq_true] at this
  have h4:=lAe.1 this.2 _ (Kgp hn'.2)
  simp only[Bool.or_eq_true,Bool.and_eq_true,Bool.not_eq_true'] at h4
  rw[(code hn).1,(code hn').1,code2 hn,code2 hn'] at h4
  rcases h4 with(h4 | h4) | ⟨h4,h5⟩
  ·have:=nblt.1 h4;omega
  ·have:=nEq h4
   have:=hn.1;have:=hn'.1
   exact .inl ⟨by omega,by omega⟩
  refine .inr ⟨fun e=>?_,fun e=>?_⟩
  ·rw[e,Nat.beq_refl] at h4;cases h4
  rw[e,Nat.beq_refl] at h5;cases h5
 have hhp:∀ i j:Nat,i<j→inL hl i=true→inL hl j=true→j<ops.size→Bef .any ops i j:=by
  intro i j hij hi hj _
  have:=lAe.1 (lAe.1 h1 j (Kgp hj)) i (Kgp hi)
  simp only[Bool.or_eq_true,Bool.not_eq_true'] at this
  rcases this with h1 | h1
  ·rw[nblt.2 hij] at h1;cases h1
  exact Kgn h1
 refine⟨⟨fun i j hi hj hio hjo=>?_,fun i j hn=>?_,fun i j oi d hn hoi hd k ok hok hki=>?_,fun i j j' hn hn'=>?_,fun i i' j hn hn'=>?_⟩,hhp⟩
 ·have:=lAe.1 h2 j (Kgp hj)
  simp only[Bool.or_eq_true,Bool.and_eq_true,Bool.not_eq_true'] at this
  rcases this with⟨k1,k2⟩ | k1
  ·have:=nBe k2
   rw[nblt.2 (by omega:j<1000)] at k1
   cases k1
  exact Kgn (lAe.1 k1 i (Kgp hi))
 ·have:=Kgq h3 hn
  simp only[newB,Bool.and_eq_true] at this
  have:=this.1.1
  rw[(code hn).1,(code hn).2] at this
  exact Kgn this
 ·have:=Kgq h3 hn
  simp only[newB,Bool.and_eq_true] at this
  have:=this.1.2
  rw[(code hn).1,(code hn).2,hoi] at this
  simp only[hd] at this
  have:=lAe.1 this k (List.mem_range.2 (aEs.1 hok).1)
  rw[hok] at this
  simp only[Bool.or_eq_true,Bool.and_eq_true,Bool.not_eq_true'] at this
  rcases this with this | ⟨k1,k2⟩
  ·exact absurd (nEq this) hki
  refine⟨fun e=>by rw[e] at k1;simp at k1,fun hkj hl=>?_⟩
  rcases k2 with(k2 | k2) | k2
  ·exact absurd (nEq k2) hkj
  ·have:(ok.looksAt ops).any (Nat.beq d)=true:=List.any_eq_true.2 ⟨d,hl,Nat.beq_refl d⟩
   rw[this] at k2;cases k2
  exact Kgn k2
 ·rcases uniq hn hn' with h | h
  ·exact h.2
  exact absurd rfl h.1
 rcases uniq hn hn' with h | h
 ·exact h.1
 exact absurd rfl h.2
end
end Go.Gk
namespace Go.Gk
section
variable{P:Program}{Γ:TypeId→Option TI}{F N:Nat}{Q:GPost}{fr fr':Fr}{hp hp':List Ob}{ks:List Kt}
variable{α:Type}{enc:α→List D}{ops:Array Oper}{rest:List Oper}{g:G}
variable{d:Tmp}{op:Op}{ty:TypeId}{pos:String}{after:Array Edge}{gd':Option (Nat×Bool)}
theorem Kgs(hΓ:TOK P Γ){t te:TypeId}{i1 i2:TI}{x y:Operand}{id n m:Nat}{ds ys:List D}(h1:Γ t=some i1)(h1':i1.desc=.slice te)(h2:Γ te=some i2)(hz:Nat.beq i2.zero.cells.size i2.size=true)(hz0:Nat.blt 0 i2.size=true)
  (hx:fr.ev x=some (.sl id n)) (ho:hp[id]?=some (.row te i2.size n ds)) (hy:fr.ev y=some (.d (.ro m ys))) (hl:ys.length=m * i2.size) (hb:(n+m) * i2.bytes≤140737488355328) (hm:n+m≤maxLen) :
  OpS P N ⟨some d,.call ⟨.builtin .append,#[x,y],#[t,t]⟩,ty,pos,after,gd'⟩ fr hp (.sl hp.length (n+m)) (hp.set id .dead++[.row te i2.size (n+m) (ds++ys)]):=by
 intro Z w M a hr
 obtain⟨u1,_⟩:=hΓ t _ h1
 rw[h1'] at u1
 obtain⟨_,inf,e1,e2,e3,e4⟩:=hΓ te _ h2
 have hid:id<hp.length:=(gEs.1 ho).1
 have hidM:id<M.l.length:=by rw[hr.heap.len];exact hid
 have hzs:i2.zero.cells.size=inf.size:=by rw[e2];exact nEq hz
 have hvx:=hr.ev hx
 have hvy:=hr.ev hy
 have hob:=hr.heap.obj id _ _ ho (gGe hidM)
 generalize hmo:M.l[id]=mo at hob
 have hMid:M.l[id]?=some mo:=by rw[gGe hidM,hmo]
 have hsrc:∃ news:List Value,((a.eval y=.slice none 0 0∧m=0∧news=[])∨∃ b off cap,a.eval y=.slice (some ⟨b,off,none⟩) m cap∧(∀ (j:Nat) (u:Value),news[j]?=some u→w.cell? ⟨b,off+j,none⟩=some u))∧
   news.length=ys.length∧(∀ (j:Nat) (u:Value) (d:D),news[j]?=some u→ys[j]?=some d→VD w (ownZ Z hp M) d u)∧∀ u∈news,u.oneCell'=true:=by
  cases hvy with
  | d hd=>
   rcases Kbc hd with⟨e,rfl,rfl⟩ | ⟨b,off,cap,vs,e,hl,hc,hv,h1⟩
   ·exact⟨[],.inl ⟨e,rfl,rfl⟩,rfl,fun j u d h=>by simp at h,fun u h=>by cases h⟩
   ·exact⟨vs,.inr ⟨b,off,cap,e,hc⟩,hl,hv,h1⟩
 obtain⟨news,hsrc1,hsrc2,hsrc3,hsrc4⟩:=hsrc
 have hrow:∃ cs0:Array Value,((mo=none∧a.eval x=.slice none 0 0∧n=0)∨∃ b c,mo=some (b,c)∧a.eval x=.slice (some ⟨b,0,none⟩) n c∧w.heap[b]?=some (.cells cs0 te (0,0))∧cs0.size=c * inf.size∧n≤c∧c≤maxLen)∧
   (mo=none→ds=[])∧ds.length=n * inf.size∧(mo≠none→DataR w (ownZ Z hp M) cs0 ds):=by
  cases mo with
  | none=>
   obtain⟨rfl,rfl⟩:=hob
   refine⟨#[],.inl ⟨rfl,?_,rfl⟩,fun _=>rfl,by simp,fun h=>absurd rfl h⟩
   generalize a.eval x=vx at hvx
   cases hvx with
   | sl h _ _=>rw[hMid] at h;cases h
   | slnil h=>rfl
  | some bc=>
   obtain⟨b,c⟩:=bc
   obtain⟨hdl,cs,hb,hcs,hnc,hcm,hcr⟩:=hob
   refine⟨cs,.inr ⟨b,c,rfl,?_,hb,by rw[hcs,e2],hnc,hcm⟩,(fun h=>by cases h),by rw[hdl,e2],fun _=>hcr⟩
   generalize a.eval x=vx at hvx
   cases hvx with
   | sl h _ _=>rw[hMid] at h;cases h;rfl
   | slnil h=>rw[hMid] at h;cases h
 obtain⟨cs0,hrow1,hrow2,hrow3,hrow4⟩:=hrow
 obtain⟨v',w',mo',hrun,g1,g2,g3,g4,hres⟩:=Kbd (P:=P) (tyo:=ty) mo u1 e1 e4 hzs (by rw[e2];exact nblt.1 hz0) hrow1 hsrc1 (by rw[hsrc2,hl,e2]) hsrc4 hm (by rw[e3];exact hb)
 have hMold:∀ i,i<M.l.length→(M.app [mo']).l[i]?=M.l[i]?:=fun i hi=>gAl hi
 have hMnew:(M.app [mo']).l[hp.length]?=some mo':=by rw[←hr.heap.len];simp
 have hcase:∀ (i:Nat) (o:Ob),(hp.set id .dead++[.row te i2.size (n+m) (ds++ys)])[i]?=some o→(i<hp.length∧i≠id∧hp[i]?=some o)∨(i=id∧o=.dead)∨(i=hp.length∧o=.row te i2.size (n+m) (ds++ys)):=fun i o h=>by
  by_cases hi:i<hp.length
  ·rw[gAl (by simpa using hi)] at h
   by_cases hii:i=id
   ·subst hii;simp[hid] at h;exact .inr (.inl ⟨rfl,h.symm⟩)
   ·rw[gSn (Ne.symm hii)] at h;exact .inl ⟨hi,hii,h⟩
  ·rw[gAr (by simp;omega)] at h
   simp only[List.length_set] at h
   have h0:i - hp.length=0:=by
    cases hk:i - hp.length with
    | zero=>rfl
    | succ k=>rw[hk] at h;simp at h
   rw[h0] at h
   simp at h
   exact .inr (.inr ⟨by omega,h.symm⟩)
 have hlive:∀ (c:Nat) (b:Nat),mo=some (b,c)→obOwn hp M b:=fun c b e=>⟨id,_,c,ho,rfl,by rw[hMid,e]⟩
 have hkeep:∀ b,b<w.heap.size→¬ own hp M b→w'.heap[b]?=w.heap[b]?:=fun b hb hn=>by
  rcases hres with⟨_,_,_,rfl,_⟩ | ⟨b',c',cur,r1,r2,r3,r4,r5,r6,r7,r8,r9,r10⟩
  ·rfl
  ·refine r9 b hb fun e=>?_
   subst e
   rcases r10 with⟨c,hc⟩ | h
   ·exact hn (.inl (hlive c b hc))
   ·omega
 have hobo:∀ b,b<w.heap.size→obOwn (hp.set id .dead++[.row te i2.size (n+m) (ds++ys)]) (M.app [mo']) b→obOwn hp M b:=by
  rintro b hb ⟨i,o,c,h1,h2,h3⟩
  rcases hcase i o h1 with⟨e1,e2,e3⟩ | ⟨rfl,rfl⟩ | ⟨rfl,rfl⟩
  ·rw[hMold i (by rw[hr.heap.len];exact e1)] at h3
   exact⟨i,o,c,e3,h2,h3⟩
  ·cases h2
  ·rw[hMnew] at h3
   rcases hres with⟨r1,_⟩ | ⟨b',c',cur,r1,r2,r3,r4,r5,r6,r7,r8,r9,r10⟩
   ·rw[r1] at h3;cases h3
   ·rw[r1] at h3
    cases h3
    rcases r10 with⟨c,hc⟩ | h
    ·exact hlive c b hc
    ·omega
 have hbg:∀ (i:Nat) (al:List Bool) (ar:List Ar) (lt:List (Nat×Nat)),(hp.set id .dead++[.row te i2.size (n+m) (ds++ys)])[i]?=some (.bag al ar lt)→hp[i]?=some (.bag al ar lt):=fun i al ar lt h=>Koe rfl i al ar lt (Kof rfl i al ar lt h)
 have htags:KeepT hp M w w':=fun x hx hno=>by
  rcases hres with⟨_,_,_,rfl,_⟩ | ⟨b',c',cur,r1,r2,r3,r4,r5,r6,r7,r8,r9,r10⟩
  ·rfl
  ·refine r9 x.b (hr.heap.bags.tgs x hx).1 fun e=>?_
   rcases r10 with⟨c,hc⟩ | h
   ·exact hno (e▸hlive c b' hc)
   ·have:=(hr.heap.bags.tgs x hx).1;omega
 have hst:Stp w (own hp M) w' (own (hp.set id .dead++[.row te i2.size (n+m) (ds++ys)]) (M.app [mo'])):=.mk' g1 hkeep (fun b hb h=>Kod h (hobo b hb) (fun g=>g.of hbg) rfl) g2 g3 g4 rfl (fun g=>g.of hbg) (hr.heap.bags.ht htags)
 have hob':∀ i o c b,i≠id→hp[i]?=some o→o.live=true→M.l[i]?=some (some (b,c))→w'.heap[b]?=w.heap[b]?:=fun i o c b hi h1 h2 h3=>by
  have hlt:=hr.heap.block_ob ⟨i,o,c,h1,h2,h3⟩
  rcases hres with⟨_,_,_,rfl,_⟩ | ⟨b',c',cur,r1,r2,r3,r4,r5,r6,r7,r8,r9,r10⟩
  ·rfl
  ·refine r9 b hlt fun e=>?_
   subst e
   rcases r10 with⟨c2,hc⟩ | h
   ·exact hi (hr.heap.inj i id o _ b c c2 h1 ho h2 rfl h3 (by rw[hMid,hc]))
   ·omega
 have hnew:∀ i o b c,i≠id→hp[i]?=some o→o.live=true→M.l[i]?=some (some (b,c))→∀ c',mo'=some (b,c')→False:=fun i o b c hi h1 h2 h3 c' he=>by
  have hlt:=hr.heap.block_ob ⟨i,o,c,h1,h2,h3⟩
  rcases hres with⟨r1,_⟩ | ⟨b',c2,cur,r1,r2,r3,r4,r5,r6,r7,r8,r9,r10⟩
  ·rw[r1] at he;cases he
  ·rw[r1] at he
   cases he
   rcases r10 with⟨c3,hc⟩ | h
   ·exact hi (hr.heap.inj i id o _ b c c3 h1 ho h2 rfl h3 (by rw[hMid,hc]))
   ·omega
 refine⟨v',w',M.app [mo'],?_,⟨by simp[hr.heap.len],fun i o m' h1 h2=>?_,fun b hb hz=>?_,fun b hz=>nLl (hr.heap.old b hz) g1,hr.heap.amb_stp hst,fun i j oi oj b c c' hi hj li lj mi mj=>?_,hr.heap.bags.mono rfl g1 hobo hbg⟩,?_,hst,⟨by simp[hr.heap.len],fun i hi=>hMold i (by rw[hr.heap.len];exact hi)⟩⟩
 ·simp[execOp,resolve,invoke,builtin,hrun]
 ·rcases hcase i o h1 with⟨e1',e2',e3'⟩ | ⟨rfl,rfl⟩ | ⟨rfl,rfl⟩
  ·rw[hMold i (by rw[hr.heap.len];exact e1')] at h2
   have hob:=hr.heap.obj i o m' e3' h2
   exact hob.move (k:=M.l.length) (Koi Z hst) hMold hob.bel (fun b c e hl2=>by subst e;exact hob' i o c b e2' e3' hl2 h2) (hr.heap.bags.kp htags rfl e3')
  ·cases m'<;>trivial
  ·rw[hMnew] at h2
   cases h2
   rcases hres with⟨rfl,r2,r3,r4,rfl⟩ | ⟨b',c',cur,rfl,r2,r3,r4,r5,r6,r7,r8,r9,r10⟩
   ·have:ds=[]:=hrow2 rfl
    have hm0:m=0:=by omega
    subst hm0
    have:ys=[]:=List.eq_nil_of_length_eq_zero (by simpa using hl)
    subst this
    exact⟨by simp[*],r3⟩
   ·refine⟨by rw[List.length_append,hrow3,hl,e2,Nat.add_mul],cur,r3,by rw[r4,e2],r5,r6,fun j dd hj=>?_⟩
    by_cases hjn:j<ds.length
    ·rw[gAl hjn] at hj
     have hmo:mo≠none:=fun e=>by have:=hrow2 e;subst this;simp at hjn
     obtain⟨v,f1,f2⟩:=hrow4 hmo j dd hj
     exact⟨v,by rw[r7 j (by rw[←hrow3];exact hjn) hmo];exact f1,f2.step (Koi Z hst)⟩
    ·rw[gAr (by omega)] at hj
     have hlt:j - ds.length<news.length:=by rw[hsrc2];exact(gEs.1 hj).1
     have hn:=gGe hlt
     refine⟨news[j - ds.length],?_,(hsrc3 _ _ dd hn hj).step (Koi Z hst)⟩
     have:=r8 _ _ hn
     rw[←hrow3] at this
     rw[←this]
     congr 1
     omega
 ·by_cases hb':b<w.heap.size
  ·exact hr.heap.apart b (hst.own b hb' hb) hz
  ·exact absurd (hr.heap.old b hz) hb'
 ·rcases hcase i oi hi with⟨a1,a2,a3⟩ | ⟨rfl,rfl⟩ | ⟨rfl,rfl⟩
  ·rw[hMold i (by rw[hr.heap.len];exact a1)] at mi
   rcases hcase j oj hj with⟨b1,b2,b3⟩ | ⟨rfl,rfl⟩ | ⟨rfl,rfl⟩
   ·rw[hMold j (by rw[hr.heap.len];exact b1)] at mj
    exact hr.heap.inj i j oi oj b c c' a3 b3 li lj mi mj
   ·cases lj
   ·rw[hMnew] at mj
    exact(hnew i oi b c a2 a3 li mi c' (by cases mj;rfl)).elim
  ·cases li
  ·rw[hMnew] at mi
   rcases hcase j oj hj with⟨b1,b2,b3⟩ | ⟨rfl,rfl⟩ | ⟨rfl,rfl⟩
   ·rw[hMold j (by rw[hr.heap.len];exact b1)] at mj
    exact(hnew j oj b c' b2 b3 lj mj c (by cases mi;rfl)).elim
   ·cases lj
   ·rfl
 ·rcases hres with⟨rfl,rfl,r3,r4,rfl⟩ | ⟨b',c',cur,rfl,rfl,r3,r4,r5,r6,r7,r8,r9,r10⟩
  ·rw[r3];exact .slnil hMnew
  ·exact .sl hMnew r5 r6
theorem Kgt(hΓ:TOK P Γ){t te:TypeId}{i1 i2:TI}{x y:Operand}{id n:Nat}{l m r:List α}(hz:apd l m=some r)(h1:Γ t=some i1)(h1':i1.desc=.slice te)(h2:Γ te=some i2)(hzc:Nat.beq i2.zero.cells.size i2.size=true)(hz0:Nat.blt 0 i2.size=true)
  (hx:fr.ev x=some (.sl id n)) (hn:n=l.length) (ho:hp[id]?=some (.row te i2.size l.length (l.flatMap enc))) (hy:fr.ev y=some (.d (Sl enc m))) (henc:∀ y,(enc y).length=i2.size) (hbytes:Nat.ble (4294967296 * i2.bytes) 140737488355328=true) :
  OpS P N ⟨some d,.call ⟨.builtin .append,#[x,y],#[t,t]⟩,ty,pos,after,gd'⟩ fr hp (.sl hp.length r.length) (hp.set id .dead++[.row te i2.size r.length (r.flatMap enc)]):=by
 obtain⟨rfl,hle⟩:=Keb hz
 subst hn
 have hb:=nBe hbytes
 have hmul:(l.length+m.length) * i2.bytes≤4294967296 * i2.bytes:=Nat.mul_le_mul_right _ hle
 have:=Kgs (P:=P) (N:=N) (d:=d) (ty:=ty) (pos:=pos) (after:=after) (gd':=gd') hΓ h1 h1' h2 hzc hz0 hx ho hy (Kem henc m) (by omega) (by simp only[maxLen];omega)
 rw[List.length_append,List.flatMap_append]
 exact this
theorem VR.renx{w:World}{O:Ow}{Mc M:Mp}{f:Nat→Nat}{k:Nat}(hM:∀ i x,i≠k→Mc.l[i]?=some x→M.l[f i]?=some x){g:G}{v:Value}(h:VR w O Mc g v)(hb:g.has k=false):VR w O M (g.ren f) v:=by
 have hne:∀ {i:Nat},Nat.beq i k=false→i≠k:=fun h e=>by subst e;rw[Nat.beq_refl] at h;cases h
 induction h with
 | d h=>exact .d h
 | agg hl _ ih=>
  simp only[G.ren,G.renAll_eq]
  refine .agg (by simpa using hl) fun j g v hg hv=>?_
  rw[gMp] at hg
  obtain⟨g0,hg0,rfl⟩:=oMs.1 hg
  exact ih j g0 v hg0 hv (G.hasAny_spec hb j g0 hg0)
 | ptr h=>exact .ptr (hM _ _ (hne hb) h)
 | rp vs hb' hO hc hv=>exact .rp vs hb' hO hc hv
 | sl h hn hm=>exact .sl (hM _ _ (hne hb) h) hn hm
 | slnil h=>exact .slnil (hM _ _ (hne hb) h)
 | slo h hn hm=>exact .slo (hM _ _ (hne hb) h) hn hm
 | slonil h=>exact .slonil (hM _ _ (hne hb) h)
 | map h=>exact .map (hM _ _ (hne hb) h)
 | pnn h=>exact .pnn (hM _ _ (hne hb) h)
 | pns h=>exact .pns (hM _ _ (hne hb) h)
 | sa h ho=>exact .sa (hM _ _ (hne hb) h) ho
 | sv h hn hm=>exact .sv (hM _ _ (hne hb) h) hn hm
 | svnil h=>exact .svnil (hM _ _ (hne hb) h)
 | pv h=>exact .pv (hM _ _ (hne hb) h)
 | svo h ho hn=>exact .svo (hM _ _ (hne hb) h) ho hn
 | svonil h=>exact .svonil (hM _ _ (hne hb) h)
 | fn l1 l2 _ _ i1 i2=>
  simp only[G.has,Bool.or_eq_false_iff] at hb
  simp only[G.ren,G.renAll_eq]
  refine .fn (by simpa using l1) (by simpa using l2) (fun j g v hg hv=>?_) (fun j g v hg hv=>?_)
  ·rw[gMp] at hg
   obtain⟨g0,hg0,rfl⟩:=oMs.1 hg
   exact i1 j g0 v hg0 hv (G.hasAny_spec hb.1 j g0 hg0)
  rw[gMp] at hg
  obtain⟨g0,hg0,rfl⟩:=oMs.1 hg
  exact i2 j g0 v hg0 hv (G.hasAny_spec hb.2 j g0 hg0)
 | tup hl _ ih=>
  simp only[G.ren,G.renAll_eq]
  refine .tup (by simpa using hl) fun j g v hg hv=>?_
  rw[gMp] at hg
  obtain⟨g0,hg0,rfl⟩:=oMs.1 hg
  exact ih j g0 v hg0 hv (G.hasAny_spec hb j g0 hg0)
 | junk v=>exact .junk v
end
end Go.Gk
namespace Go.Gk
def mvf(src dst i:Nat):Nat:=bif Nat.beq i src then dst else i
def Fr.mv(src dst:Nat):Fr→Fr
 | []=>[]
 | (t,g) :: r=>(t,bif g.has dst then .junk else g.ren (mvf src dst)) :: Fr.mv src dst r
theorem Fr.mv_get{src dst:Nat}:∀ {fr:Fr} {t:Nat} {g:G},(fr.mv src dst).get t=some g→∃ g0,fr.get t=some g0∧(g=.junk∨(g0.has dst=false∧g=g0.ren (mvf src dst)))
 | [],_,_,h=>by cases h
 | (t0,g0) :: r,t,g,h=>by
  simp only[Fr.mv,Fr.get] at h ⊢
  cases hk:Nat.beq t0 t with
  | true=>
   rw[hk] at h
   refine⟨g0,rfl,?_⟩
   cases hh:g0.has dst with
   | true=>rw[hh] at h;cases h;exact .inl rfl
   | false=>rw[hh] at h;cases h;exact .inr ⟨rfl,rfl⟩
  | false=>rw[hk] at h;exact Fr.mv_get h
def mvObs(src dst:Nat)(o:Ob)(hp:List Ob):List Ob:=((hp.map (Ob.ren (mvf src dst))).set dst (o.ren (mvf src dst))).set src .dead
section
variable{P:Program}{Γ:TypeId→Option TI}{F N:Nat}{Q:GPost}{fr fr':Fr}{hp hp':List Ob}{ks:List Kt}
variable{ops:Array Oper}{rest:List Oper}{g:G}
theorem Kgu(src dst:Nat){o:Ob}(ho:hp[src]?=some o)(hol:o.live=true)(hdst:hp[dst]?=some .dead)(hno:(hp.all fun o=>!o.has dst)=true)(Z:Env)(w:World)(M:Mp)(a:Act)(hr:Rel Z hp M w fr a N) :
  ∃ M',Rel Z (mvObs src dst o hp) M' w (fr.mv src dst) a N∧Stp w (own hp M) w (own (mvObs src dst o hp) M')∧M'.l.length=M.l.length∧∀ i,i≠dst→M'.l[i]?=M.l[i]?:=by
 have hs:src<hp.length:=(gEs.1 ho).1
 have hd:dst<hp.length:=(gEs.1 hdst).1
 have hne:src≠dst:=fun e=>by subst e;rw[ho] at hdst;cases hdst;cases hol
 have hsM:src<M.l.length:=by rw[hr.heap.len];exact hs
 have hdM:dst<M.l.length:=by rw[hr.heap.len];exact hd
 have lv:∀ o:Ob,(o.ren (mvf src dst)).live=o.live:=fun o=>by cases o<;>rfl
 generalize hm:M.l[src]=ms
 have hMs:M.l[src]?=some ms:=by rw[gGe hsM,hm]
 have hM':∀ i,i≠dst→(M.set dst ms).l[i]?=M.l[i]?:=fun i hi=>gSn (Ne.symm hi)
 have hMd:(M.set dst ms).l[dst]?=some ms:=by simp[hdM]
 have hf:∀ i x,i≠dst→M.l[i]?=some x→(M.set dst ms).l[mvf src dst i]?=some x:=fun i x hi hx=>by
  unfold mvf
  cases hb:Nat.beq i src with
  | true=>
   have:=nEq hb
   subst this
   rw[hMs] at hx
   simp only[cond_true]
   rw[hMd,hx]
  | false=>simp only[cond_false];rw[hM' i hi];exact hx
 have hcase:∀ (i:Nat) (q:Ob),(mvObs src dst o hp)[i]?=some q→(i=src∧q=.dead)∨(i=dst∧q=o.ren (mvf src dst))∨(i≠src∧i≠dst∧∃ q0,hp[i]?=some q0∧q=q0.ren (mvf src dst)):=fun i q h=>by
  unfold mvObs at h
  by_cases h1:i=src
  ·subst h1;simp[hs] at h;exact .inl ⟨rfl,h.symm⟩
  ·rw[gSn (Ne.symm h1)] at h
   by_cases h2:i=dst
   ·subst h2;simp[hd] at h;exact .inr (.inl ⟨rfl,h.symm⟩)
   ·rw[gSn (Ne.symm h2),gMp] at h
    obtain⟨q0,hq0,rfl⟩:=oMs.1 h
    exact .inr (.inr ⟨h1,h2,q0,hq0,rfl⟩)
 have hback:∀ (i:Nat) (q:Ob),hp[i]?=some q→q.live=true→∃ (j:Nat) (q':Ob),(mvObs src dst o hp)[j]?=some q'∧q'.live=true∧(M.set dst ms).l[j]?=M.l[i]?:=fun i q h hl=>by
  by_cases h1:i=src
  ·subst h1
   refine⟨dst,o.ren (mvf i dst),by unfold mvObs;rw[gSn hne];simp[hd],by rw[lv];exact hol,by rw[hMd,hMs]⟩
  ·have h2:i≠dst:=fun e=>by subst e;rw[h] at hdst;cases hdst;cases hl
   refine⟨i,q.ren (mvf src dst),by unfold mvObs;rw[gSn (Ne.symm h1),gSn (Ne.symm h2),gMp,h];rfl,by rw[lv];exact hl,hM' i h2⟩
 have hfwd:∀ (i:Nat) (q:Ob),(mvObs src dst o hp)[i]?=some q→q.live=true→∃ (j:Nat) (q0:Ob),hp[j]?=some q0∧q0.live=true∧(M.set dst ms).l[i]?=M.l[j]?∧mvf src dst j=i∧j≠dst:=fun i q h hl=>by
  rcases hcase i q h with⟨rfl,rfl⟩ | ⟨rfl,rfl⟩ | ⟨h1,h2,q0,hq0,rfl⟩
  ·cases hl
  ·exact⟨src,o,ho,hol,by rw[hMd,hMs],by simp[mvf],hne⟩
  ·refine⟨i,q0,hq0,by rw[←lv];exact hl,hM' i h2,?_,h2⟩
   unfold mvf
   cases hb:Nat.beq i src with
   | true=>exact absurd (nEq hb) h1
   | false=>rfl
 have hob1:∀ b,obOwn (mvObs src dst o hp) (M.set dst ms) b→obOwn hp M b:=by
  rintro b ⟨i,q,c,h1,h2,h3⟩
  obtain⟨j,q0,e1,e2,e3,_⟩:=hfwd i q h1 h2
  exact⟨j,q0,c,e1,e2,by rw[←e3];exact h3⟩
 have hob2:∀ b,obOwn hp M b→obOwn (mvObs src dst o hp) (M.set dst ms) b:=by
  rintro b ⟨i,q,c,h1,h2,h3⟩
  obtain⟨j,q',e1,e2,e3⟩:=hback i q h1 h2
  exact⟨j,q',c,e1,e2,by rw[e3];exact h3⟩
 have bagren:∀ (q:Ob) al ar lt,q.ren (mvf src dst)=.bag al ar lt→∃ lt0,q=.bag al ar lt0∧lt=Lt.ren (mvf src dst) lt0:=fun q al ar lt h=>by cases q<;>first | (cases h;exact⟨_,rfl,rfl⟩) | cases h
 have hbg:∀ (i:Nat) (al:List Bool) (ar:List Ar) (lt:List (Nat×Nat)),(mvObs src dst o hp)[i]?=some (.bag al ar lt)→∃ j lt0,hp[j]?=some (.bag al ar lt0)∧lt=Lt.ren (mvf src dst) lt0∧mvf src dst j=i:=fun i al ar lt h=>by
  rcases hcase i _ h with⟨_,e⟩ | ⟨rfl,e⟩ | ⟨e1,e2,q0,hq0,e⟩
  ·cases e
  ·obtain⟨lt0,f1,f2⟩:=bagren o al ar lt e.symm
   exact⟨src,lt0,by rw[ho,f1],f2,by simp[mvf]⟩
  ·obtain⟨lt0,f1,f2⟩:=bagren q0 al ar lt e.symm
   refine⟨i,lt0,by rw[hq0,f1],f2,?_⟩
   unfold mvf
   cases hb:Nat.beq i src with
   | true=>exact absurd (nEq hb) e1
   | false=>rfl
 have hg:hasBag (mvObs src dst o hp) ↔ hasBag hp:=⟨fun ⟨i,al,ar,lt,h⟩=>let ⟨j,lt0,h1,_⟩:=hbg i al ar lt h;⟨j,al,ar,lt0,h1⟩,fun ⟨i,al,ar,lt,h⟩=>by
  by_cases h1:i=src
  ·subst h1
   rw[ho] at h
   cases h
   exact⟨dst,al,ar,_,by unfold mvObs;rw[gSn hne];simp[hd,Ob.ren];rfl⟩
  ·have h2:i≠dst:=fun e=>by subst e;rw[h] at hdst;cases hdst
   exact⟨i,al,ar,_,by unfold mvObs;rw[gSn (Ne.symm h1),gSn (Ne.symm h2),gMp,h];rfl⟩⟩
 have hO:own (mvObs src dst o hp) (M.set dst ms)=own hp M:=Koc (fun b=>⟨fun h=>Kod h (hob1 b) hg.1 rfl,fun h=>Kod h (hob2 b) hg.2 rfl⟩) rfl hg
 have hOZ:ownZ Z (mvObs src dst o hp) (M.set dst ms)=ownZ Z hp M:=by unfold ownZ;rw[hO]
 have hobR:∀ (q:Ob) (m:Option (Nat×Nat)),q.has dst=false→ObR w (ownZ Z hp M) M q m→ObR w (ownZ Z hp M) (M.set dst ms) (q.ren (mvf src dst)) m:=fun q m hh h=>by
  cases q with
  | box tb gs=>
   match m,h with
   | some (b,c),⟨cs,e1,e2,hc⟩=>
    refine⟨cs,e1,by simp[G.renAll_eq,e2],fun j g hg=>?_⟩
    rw[G.renAll_eq,gMp] at hg
    obtain⟨g0,hg0,rfl⟩:=oMs.1 hg
    obtain⟨v,k1,k2,k3⟩:=hc j g0 hg0
    exact⟨v,k1,k2,k3.renx hf (G.hasAny_spec hh j g0 hg0)⟩
  | map _ es st=>cases m<;>exact h
  | siter _ _=>cases m<;>exact h
  | rowv _ _ _ _=>cases m<;>exact h
  | pm es=>
   match m,h with
   | some (b,c),⟨ms,cl,es',h1,hp,h2,h3,h4,h5⟩=>
    refine⟨ms,cl,es'.map fun e=>(e.1,e.2.ren (mvf src dst)),h1,hp.map _,by rw[List.pairwise_map];exact h2,by simpa using h3,h4,fun j k0 g hg=>?_⟩
    rw[gMp] at hg
    obtain⟨e0,hg0,he⟩:=oMs.1 hg
    cases he
    obtain⟨e,e1,e2,e3,e4⟩:=h5 j _ _ hg0
    exact⟨e,e1,e2,e3,e4.renx hf (Bool.eq_false_iff.2 (List.any_eq_false.1 hh _ (hp.mem_iff.1 (mOg hg0))))⟩
  | iter mid cl seen=>
   match m,h with
   | some (b,c),⟨bm,c',e1,e2⟩=>exact⟨bm,c',hf _ _ (fun e=>by simp[Ob.has,e] at hh) e1,e2⟩
  | row t sz n ds=>cases m<;>exact h
  | bag al ar lt=>
   match m,h with
   | none,h=>
    refine ObR.bag_ren h rfl (fun t ht=>Lt.not_ren.2 ht) fun t id hm=>?_
    obtain⟨i,h1,e⟩:=Lt.mem_ren.1 hm
    obtain⟨x,c,_,_,h2⟩:=h.2.2.2.2.2 t i h1
    have hne:i≠dst:=fun e=>by
     have hb:Nat.beq i dst=false:=Bool.eq_false_iff.2 (List.any_eq_false.1 hh _ h1)
     rw[e,Nat.beq_refl] at hb;cases hb
    exact⟨i,h1,by rw[←e,h2];exact hf _ _ hne h2⟩
  | dead=>trivial
 have hhas:∀ (i:Nat) (q:Ob),hp[i]?=some q→q.has dst=false:=fun i q h=>by simpa using lAe.1 hno q (mOg h)
 refine⟨M.set dst ms,⟨⟨by simp[mvObs,hr.heap.len],fun i q m h1 h2=>?_,fun b hb=>hr.heap.apart b (by rw[hO] at hb;exact hb),hr.heap.old,hr.heap.amb,fun i j oi oj b c c' hi hj li lj mi mj=>?_,⟨fun x hx=>⟨(hr.heap.bags.tgs x hx).1,fun hz h=>(hr.heap.bags.tgs x hx).2 hz (hob1 _ h)⟩,fun i j al al' ar ar' lt lt' hi hj=>?_,fun i al ar lt hi t x hx h=>?_,hr.heap.bags.hds⟩⟩,fun t g h=>?_,hr.size,hr.defers⟩,by rw[hO];exact Stp.refl _ _,by simp,hM'⟩
 ·rw[hOZ]
  rcases hcase i q h1 with⟨rfl,rfl⟩ | ⟨rfl,rfl⟩ | ⟨e1,e2,q0,hq0,rfl⟩
  ·trivial
  ·rw[hMd] at h2;cases h2
   exact hobR o ms (hhas _ o ho) (hr.heap.obj _ o ms ho hMs)
  ·rw[hM' i e2] at h2
   exact hobR q0 m (hhas i q0 hq0) (hr.heap.obj i q0 m hq0 h2)
 ·obtain⟨i0,o1,e1,e2,e3,e4,_⟩:=hfwd i oi hi li
  obtain⟨j0,o2,f1,f2,f3,f4,_⟩:=hfwd j oj hj lj
  have:=hr.heap.inj i0 j0 o1 o2 b c c' e1 f1 e2 f2 (by rw[←e3];exact mi) (by rw[←f3];exact mj)
  subst this
  exact e4.symm.trans f4
 ·obtain⟨i',lt0,e1,_,e2⟩:=hbg i al ar lt hi
  obtain⟨j',lt1,f1,_,f2⟩:=hbg j al' ar' lt' hj
  rw[←e2,←f2,hr.heap.bags.one i' j' al al' ar ar' lt0 lt1 e1 f1]
 ·obtain⟨i',lt0,e1,e3,e2⟩:=hbg i al ar lt hi
  obtain⟨id,h1⟩:=hr.heap.bags.lnd i' al ar lt0 e1 t x hx (hob1 _ h)
  exact⟨_,by rw[e3];exact Lt.mem_ren.2 ⟨id,h1,rfl⟩⟩
 ·rw[hOZ]
  obtain⟨g0,h0,h1⟩:=Fr.mv_get h
  obtain⟨v,e1,e2⟩:=hr.fr t g0 h0
  refine⟨v,e1,?_⟩
  rcases h1 with rfl | ⟨h1,rfl⟩
  ·exact .junk v
  ·exact e2.renx hf h1
theorem Kgv{l:List Oper}(src dst:Nat){o:Ob}(hp2:List Ob)(ho:hp[src]?=some o)(hol:o.live=true)(hdst:hp[dst]?=some .dead)(hno:(hp.all fun o=>!o.has dst)=true)(hF:Nat.ble F dst=true)(hhp:mvObs src dst o hp=hp2)(k:EO P F N ops l Q (fr.mv src dst) hp2):EO P F N ops l Q fr hp:=by
 subst hhp
 intro Z w0 O0 M0 w M a hs ha hr
 obtain⟨M',h1,h2,h3,h4⟩:=Kgu src dst ho hol hdst hno Z w M a hr
 refine k Z w0 O0 M0 w M' a (hs.trans h2) ⟨by rw[h3];exact ha.le,fun i hi=>?_⟩ h1
 rw[h4 i (by have:=nBe hF;omega)]
 exact ha.eq i hi
theorem Kgw{c:Code}{Q:GPost}(src dst:Nat){o:Ob}(hp2:List Ob)(ho:hp[src]?=some o)(hol:o.live=true)(hdst:hp[dst]?=some .dead)(hno:(hp.all fun o=>!o.has dst)=true)(hF:Nat.ble F dst=true)(hhp:mvObs src dst o hp=hp2)(k:EW P F N c Q (fr.mv src dst) hp2):EW P F N c Q fr hp:=by
 subst hhp
 intro Z w0 O0 M0 w M a hs ha hr
 obtain⟨M',h1,h2,h3,h4⟩:=Kgu src dst ho hol hdst hno Z w M a hr
 refine k Z w0 O0 M0 w M' a (hs.trans h2) ⟨by rw[h3];exact ha.le,fun i hi=>?_⟩ h1
 rw[h4 i (by have:=nBe hF;omega)]
 exact ha.eq i hi
theorem Kgx{c:Code}(src dst:Nat){o:Ob}(hp2:List Ob)(ho:hp[src]?=some o)(hol:o.live=true)(hdst:hp[dst]?=some .dead)(hno:(hp.all fun o=>!o.has dst)=true)(hF:Nat.ble F dst=true)(hhp:mvObs src dst o hp=hp2)(k:St.holds P F N Q (.code c ks) (fr.mv src dst) hp2):St.holds P F N Q (.code c ks) fr hp:=
 Kgw src dst hp2 ho hol hdst hno hF hhp k
theorem Kgy(Z:Env)(w:World)(M:Mp)(a:Act)(hr:Rel Z hp M w fr a N):Rel Z (hp++[.dead]) (M.app [none]) w fr a N∧Stp w (own hp M) w (own (hp++[.dead]) (M.app [none])):=by
 have hob1:∀ b,obOwn (hp++[.dead]) (M.app [none]) b→obOwn hp M b:=by
  rintro b ⟨i,o,c,h1,h2,h3⟩
  rcases Kqj h1 with⟨hi,h4⟩ | ⟨_,rfl⟩
  ·rcases Kqj h3 with⟨_,h5⟩ | ⟨_,h5⟩
   ·exact⟨i,o,c,h4,h2,h5⟩
   cases h5
  cases h2
 have hob2:∀ b,obOwn hp M b→obOwn (hp++[.dead]) (M.app [none]) b:=by
  rintro b ⟨i,o,c,h1,h2,h3⟩
  exact⟨i,o,c,by rw[gAl (gEs.1 h1).1];exact h1,h2,by rw[Mp.app_l',gAl (Mp.lt h3)];exact h3⟩
 have hg:hasBag (hp++[.dead]) ↔ hasBag hp:=⟨fun g=>g.of (Kof rfl),hasBag.app⟩
 have hO:own (hp++[.dead]) (M.app [none])=own hp M:=Koc (fun b=>⟨fun h=>Kod h (hob1 b) hg.1 rfl,fun h=>Kod h (hob2 b) hg.2 rfl⟩) rfl hg
 have hst:Stp w (own hp M) w (own (hp++[.dead]) (M.app [none])):=by rw[hO];exact Stp.refl _ _
 have hM:∀ i,i<M.l.length→(M.app [none]).l[i]?=M.l[i]?:=fun i hi=>gAl hi
 refine⟨⟨⟨by simp[hr.heap.len],fun i o m h1 h2=>?_,fun b hb=>hr.heap.apart b (by rw[hO] at hb;exact hb),hr.heap.old,hr.heap.amb,fun i j oi oj b c c' hi hj li lj mi mj=>?_,hr.heap.bags.mono rfl (Nat.le_refl _) (fun b _=>hob1 b) (Kof rfl)⟩,fun t g h=>?_,hr.size,hr.defers⟩,hst⟩
 ·rcases Kqj h1 with⟨hi,h3⟩ | ⟨_,rfl⟩
  ·rw[hM i (by rw[hr.heap.len];exact hi)] at h2
   have:=hr.heap.obj i o m h3 h2
   exact this.move (k:=M.l.length) (Koi Z hst) hM this.bel (fun _ _ _ _=>rfl) (fun _ _ _ _=>⟨rfl,fun _ _ _=>rfl⟩)
  cases m<;>trivial
 ·rcases Kqj hi with⟨h1,h2⟩ | ⟨_,rfl⟩
  ·rcases Kqj hj with⟨h3,h4⟩ | ⟨_,rfl⟩
   ·rw[hM i (by rw[hr.heap.len];exact h1)] at mi
    rw[hM j (by rw[hr.heap.len];exact h3)] at mj
    exact hr.heap.inj i j oi oj b c c' h2 h4 li lj mi mj
   cases lj
  cases li
 obtain⟨v,e1,e2⟩:=hr.fr t g h
 exact⟨v,e1,e2.step (Koi Z hst) hM⟩
theorem Kgz{c:Code}(hF:F≤hp.length)(k:St.holds P F N Q (.code c ks) fr (hp++[.dead])):St.holds P F N Q (.code c ks) fr hp:=by
 intro Z w0 O0 M0 w M a hs ha hr
 obtain⟨h1,h2⟩:=Kgy Z w M a hr
 exact k Z w0 O0 M0 w _ a (hs.trans h2) (ha.trans (F':=hp.length) ⟨by simp[hr.heap.len],fun i hi=>gAl (by rw[hr.heap.len];exact hi)⟩ hF) h1
end
end Go.Gk
namespace Go.Gk
def StaysL:List Ob→List Ob→Prop
 | [],_=>True
 | .dead :: r,hp=>StaysL r hp.tail
 | o :: r,hp=>hp.head?=some o∧StaysL r hp.tail
theorem Kha:∀ {hpL hp:List Ob},StaysL hpL hp→Stays hpL hp
 | [],_,_,i,o,h,_=>by simp at h
 | q :: r,hp,h,i,o,hi,hl=>by
  have key:StaysL r hp.tail∧(q.live=true→hp.head?=some q):=by
   cases q<;>first | exact⟨h.2,fun _=>h.1⟩ | exact⟨h,fun h=>by cases h⟩
  cases i with
  | zero=>
   simp at hi
   subst hi
   have:=key.2 hl
   cases hp with
   | nil=>simp at this
   | cons x r=>simpa using this
  | succ i=>
   have:=Kha key.1 i o (by simpa using hi) hl
   cases hp with
   | nil=>simp at this
   | cons x r=>simpa using this
theorem Khb{Γ:TypeId→Option TI}{fr:Fr}{hpL hp:List Ob}{op:Op}{g:G}(hs:Stays hpL hp)(h:pst Γ fr hpL op=some g):pst Γ fr hp op=some g:=by
 cases op with
 | load t x=>
  simp only[pst] at h ⊢
  cases hi:Γ t with
  | none=>rw[hi] at h;cases h
  | some i=>
   rw[hi] at h
   simp only[Option.bind_some] at h ⊢
   split at h
   ·rename_i id off hx
    cases ho:hpL[id]? with
    | none=>rw[ho] at h;cases h
    | some o=>
     rw[ho] at h
     cases o with
     | dead=>cases h
     | map _ es st=>cases h
     | iter _ _ _=>cases h
     | siter _ _=>cases h
     | rowv _ _ _ _=>cases h
     | pm _=>cases h
     | bag _=>cases h
     | box tb gs=>rw[hs id _ ho rfl];exact h
     | row tb sz n ds=>rw[hs id _ ho rfl];exact h
   ·exact h
   cases h
 | call c=>
  obtain⟨cal,⟨args⟩,⟨ts⟩⟩:=c
  cases cal with
  | value f=>exact h
  | invoke r m=>exact h
  | builtin b=>cases b<;>first | exact h | (rcases args with _ | ⟨x,_ | ⟨y,_ | ⟨z,r⟩⟩⟩<;>rcases ts with _ | ⟨t,_ | ⟨u,_ | ⟨v,q⟩⟩⟩<;>exact h)
 | _=>exact h
section
variable{P:Program}{Γ:TypeId→Option TI}{F N:Nat}{Q:GPost}{fr fr':Fr}{hp hp' hpL:List Ob}{ks:List Kt}{ll hl bl:List Nat}
variable{ops:Array Oper}{rest:List Oper}{g:G}{QF:Fr→List Ob→Prop}
variable{d:Tmp}{op:Op}{ty:TypeId}{pos:String}{after:Array Edge}{gd':Option (Nat×Bool)}{k:Nat}
def GE(P:Program)(N:Nat)(hpL:List Ob)(ll hl bl:List Nat)(ops:Array Oper)(Q:Fr→List Ob→Prop)(k:Nat)(l:List Oper)(fr:Fr)(hp:List Ob):Prop:=
 lexE P N hpL (inL ll) (inL hl) (inL bl) ops (fun F hp=>∃ fr':Fr,fr'.get=F∧Q fr' hp) k l fr.get hp
theorem Khc{id:Nat}{l:List Oper}(hm:P.follows .mixedOrders=true)(hB:Region.lexB .any l.toArray=true)(hO:orderedB l.toArray ll hl bl=true)(hst:StaysL hpL hp)(hF:F≤hp.length)(h:GE P N hpL ll hl bl l.toArray (fun fr' hp'=>Q .normal fr' hp') 0 l fr hp):EW P F N (.region id l.toArray true) Q fr hp:=by
 intro Z w0 O0 M0 w M a hs ha hr
 simp only[Region.lexB,Bool.and_eq_true] at hB
 have hdr:Stp w (own hp M) w.drew (own hp M):=.mk' (Nat.le_refl _) (fun _ _ _=>rfl) (fun _ _ h=>h) rfl rfl rfl rfl (fun g=>g) fun _ _ _=>rfl
 have hr':RelH Z hp M w.drew:=by
  refine⟨hr.heap.len,fun i o m h1 h2=>?_,hr.heap.apart,hr.heap.old,hr.heap.amb_stp hdr,hr.heap.inj,hr.heap.bags.mono rfl (Nat.le_refl _) (fun _ _ h=>h) (fun _ _ _ _ h=>h)⟩
  have:=hr.heap.obj i o m h1 h2
  exact this.move (k:=M.l.length) (Koi Z hdr) (fun _ _=>rfl) this.bel (fun _ _ _ _=>rfl) (fun _ _ _ _=>⟨rfl,fun _ _ _=>rfl⟩)
 refine wp_region_any hm (Kgm (Z:=Z) (F0:=F) (M0:=M0) (w0:=w0) (O0:=O0) (N:=N) (hpL:=hpL) (light:=inL ll) (heavy:=inL hl) (brk:=inL bl) (QF:=fun F hp=>∃ fr':Fr,fr'.get=F∧Q .normal fr' hp) (Kgr hO).toOrd0 ?_ _ _ fr.get hp M a w.drew [] (RelF.zB0 ⟨hr',fun t g hg=>let ⟨v,e1,e2⟩:=hr.fr t g hg;⟨v,e1,e2.step (Koi Z hdr) (fun _ _=>rfl)⟩,hr.size,hr.defers⟩) ⟨by simp,fun i j _ hi _=>(by rw[Kgk] at hi;cases hi),fun p hp=>by cases hp⟩ (by simp) (fun k o hk=>by rw[Kgk] at hk;cases hk) (hs.trans hdr) ha hF ?_)
 ·rintro F' a' w' hp' M' ⟨fr',rfl,hq⟩ h1 h2 h3 _
  exact⟨fr',hp',M',hq,h1.toRel,h2,h3⟩
 have:=Kgj (P:=P) (N:=N) (md:=.any) (hpL:=hpL) (QF:=fun F hp=>∃ fr':Fr,fr'.get=F∧Q .normal fr' hp) (Kgr hO) l 0 (Array.replicate l.toArray.size false) fr.get hp (by simp) (by simp) (fun k o h=>by
  rcases Nat.lt_or_ge k l.toArray.size with h' | h'
  ·simp at h' h;simp[h'] at h
  simp at h' h;simp[h'] at h) (fun j hj=>by omega) (fun _=>Kha hst) (by simpa using hB.2) h
 simpa using this
theorem Khd{id:Nat}{ops:Array Oper}(hpL:List Ob)(ll hl bl:List Nat)(hm:P.follows .mixedOrders=true)(hB:Region.lexB .any ops=true)(hO:orderedB ops ll hl bl=true)(hst:StaysL hpL hp)(hF:F≤hp.length)(h:GE P N hpL ll hl bl ops (fun fr' hp'=>stk P F N Q ks .normal fr' hp') 0 ops.toList fr hp):St.holds P F N Q (.code (.region id ops true) ks) fr hp:=by
 have:=Khc (P:=P) (F:=F) (N:=N) (Q:=stk P F N Q ks) (fr:=fr) (hp:=hp) (hpL:=hpL) (ll:=ll) (hl:=hl) (bl:=bl) (id:=id) (l:=ops.toList) hm
 simp only[Array.toArray_toList] at this
 exact this hB hO hst hF h
theorem Khe(h:St.holds P F N Q (.fin .normal ks) fr hp):GE P N hpL ll hl bl ops (fun fr' hp'=>stk P F N Q ks .normal fr' hp') k [] fr hp:=⟨fr,rfl,h⟩
theorem Khf{o:Oper}(h:Qt P N o fr hp g):QtE P N o fr hp g hp:=fun Z w M a hr K Q hK=>h Z w M a hr K Q fun v w' h1 h2 h3=>hK v w' M h1 h2 h3 ⟨Nat.le_of_eq hr.heap.len.symm,fun _ _=>rfl⟩
theorem ge_q(hd:Nat.blt d N=true)(hg:gd'=none∨∃ j want,gd'=some (j,want)∧fr.guard ops j want=some true)
  (hq:∀ hp,(inL ll k=true→Stays hpL hp)→QtE P N ⟨some d,op,ty,pos,after,gd'⟩ (fr.only (Oper.looksAt ops ⟨some d,op,ty,pos,after,gd'⟩)) hp g hp) (kk:GE P N hpL ll hl bl ops QF (k+1) rest ((d,g) :: fr) hp) (hnn:noNew bl k=true:=by rfl):GE P N hpL ll hl bl ops QF k (⟨some d,op,ty,pos,after,gd'⟩ :: rest) fr hp:=by
 refine⟨_,g,hp,.inl ⟨⟨fun d' h=>by cases h;exact nblt.1 hd,.inr ⟨hg,_,fun t g' h=>Fr.only_get h,hq⟩⟩,rfl,rfl,Kgo hnn⟩,?_⟩
 unfold GE at kk
 rw[Fr.get_cons] at kk
 exact kk
theorem ge_p(hd:Nat.blt d N=true)(ho:∀ hp,Stays hpL hp→OpP P N ⟨some d,op,ty,pos,after,none⟩ (fr.only (Oper.looksAt ops ⟨some d,op,ty,pos,after,none⟩)) hp g)(hl':inL ll k=true)(kk:GE P N hpL ll hl bl ops QF (k+1) rest ((d,g) :: fr) hp)(hnn:noNew bl k=true:=by rfl):GE P N hpL ll hl bl ops QF k (⟨some d,op,ty,pos,after,none⟩ :: rest) fr hp:=
 ge_q hd (.inl rfl) (fun hp hs=>Khf (qt_p (ho hp (hs hl')))) kk hnn
theorem Khg{j:Nat}{want:Bool}(hd:Nat.blt d N=true)(hg:fr.guard ops j want=some false)(kk:GE P N hpL ll hl bl ops QF (k+1) rest ((d,.tup []) :: fr) hp)(hnn:noNew bl k=true:=by rfl):GE P N hpL ll hl bl ops QF k (⟨some d,op,ty,pos,after,some (j,want)⟩ :: rest) fr hp:=by
 refine⟨_,.tup [],hp,.inl ⟨⟨fun d' h=>by cases h;exact nblt.1 hd,.inl ⟨j,want,rfl,hg,rfl⟩⟩,rfl,rfl,Kgo hnn⟩,?_⟩
 unfold GE at kk
 rw[Fr.get_cons] at kk
 exact kk
theorem Khh{l:List Oper}(t:Tmp){b:Bool}(hb:fr.get t=some (.d (.v (.bool b))))(h1:b=true→GE P N hpL ll hl bl ops QF k l ((t,.d (.v (.bool true))) :: fr) hp)(h2:b=false→GE P N hpL ll hl bl ops QF k l ((t,.d (.v (.bool false))) :: fr) hp):GE P N hpL ll hl bl ops QF k l fr hp:=by
 have key:∀ c,b=c→Fr.get ((t,.d (.v (.bool c))) :: fr)=fr.get:=by
  rintro c rfl
  rw[Fr.get_cons]
  funext t'
  by_cases h:t=t'
  ·subst h;simp[hb]
  simp[h]
 unfold GE at *
 cases b
 ·rw[←key false rfl];exact h2 rfl
 rw[←key true rfl];exact h1 rfl
theorem Khi{dst:Option Tmp}{j:Nat}{want:Bool}{t:Tmp}{b:Bool}(hj:(ops[j]?).bind (·.dst)=some t)(hb:fr.get t=some (.d (.v (.bool b))))
  (h1:b=true→GE P N hpL ll hl bl ops QF k (⟨dst,op,ty,pos,after,some (j,want)⟩ :: rest) ((t,.d (.v (.bool true))) :: fr) hp) (h2:b=false→GE P N hpL ll hl bl ops QF k (⟨dst,op,ty,pos,after,some (j,want)⟩ :: rest) ((t,.d (.v (.bool false))) :: fr) hp) :
  GE P N hpL ll hl bl ops QF k (⟨dst,op,ty,pos,after,some (j,want)⟩ :: rest) fr hp:=Khh t hb h1 h2
theorem ge_h(hp':List Ob)(hd:Nat.blt d N=true)(hh:inL hl k=true)(hlen:Nat.ble hp.length hp'.length=true)(hst:inL bl k=false→Stays hpL hp→Stays hpL hp')(hq:QtE P N ⟨some d,op,ty,pos,after,none⟩ (fr.only (Oper.looksAt ops ⟨some d,op,ty,pos,after,none⟩)) hp g hp')(kk:GE P N hpL ll hl bl ops QF (k+1) rest ((d,g) :: fr) hp')(hnn:noNew bl k=true:=by rfl):GE P N hpL ll hl bl ops QF k (⟨some d,op,ty,pos,after,none⟩ :: rest) fr hp:=by
 refine⟨_,g,hp',.inr (.inr (.inl ⟨hh,⟨fun d' h=>by cases h;exact nblt.1 hd,.inl rfl,nBe hlen,_,fun t g' h=>Fr.only_get h,hq⟩,rfl,Kgo hnn,hst⟩)),?_⟩
 unfold GE at kk
 rw[Fr.get_cons] at kk
 exact kk
theorem Khj(hp':List Ob)(hh:inL hl k=true)(hlen:Nat.ble hp.length hp'.length=true)(hst:inL bl k=false→Stays hpL hp→Stays hpL hp')(hq:QtE P N ⟨none,op,ty,pos,after,none⟩ (fr.only (Oper.looksAt ops ⟨none,op,ty,pos,after,none⟩)) hp g hp')(kk:GE P N hpL ll hl bl ops QF (k+1) rest fr hp')(hnn:noNew bl k=true:=by rfl):GE P N hpL ll hl bl ops QF k (⟨none,op,ty,pos,after,none⟩ :: rest) fr hp:=
 ⟨none,g,hp',.inr (.inr (.inl ⟨hh,⟨(fun d' h=>by cases h),.inl rfl,nBe hlen,_,fun t g' h=>Fr.only_get h,hq⟩,rfl,Kgo hnn,hst⟩)),kk⟩
theorem Khk{b:Bool}{A B:Prop}(h:b=true):b=false→A→B:=fun h'=>by rw[h] at h';cases h'
theorem Khl{hp':List Ob}{A B:Prop}(h:StaysL hpL hp'):A→B→Stays hpL hp':=fun _ _=>Kha h
def estep(Γ:TypeId→Option TI)(N:Nat)(hpL:List Ob)(ll bl:List Nat)(full:Array Oper)(k:Nat)(fr:Fr)(o:Oper):Option Fr:=bif noNew bl k then match o with
 | ⟨some d,op,ty,pos,after,none⟩=>bif Nat.blt d N then(pst Γ (fr.only (Oper.looksAt full ⟨some d,op,ty,pos,after,none⟩)) (bif inL ll k then hpL else[]) op).map fun g=>(d,g) :: fr else none
 | ⟨some d,op,ty,pos,after,some (j,want)⟩=>match fr.guard full j want with
  | some true=>bif Nat.blt d N then(pst Γ (fr.only (Oper.looksAt full ⟨some d,op,ty,pos,after,some (j,want)⟩)) (bif inL ll k then hpL else[]) op).map fun g=>(d,g) :: fr else none
  | some false=>bif Nat.blt d N then some ((d,.tup []) :: fr) else none
  | none=>none
 | _=>none
 else none
def erun(Γ:TypeId→Option TI)(N:Nat)(hpL:List Ob)(ll bl:List Nat)(full:Array Oper):Nat→Nat→List Oper→Fr→Nat×List Oper×Fr
 | 0,k,l,fr=>(k,l,fr)
 | n+1,k,[],fr=>(k,[],fr)
 | n+1,k,o :: l,fr=>match estep Γ N hpL ll bl full k fr o with
  | some fr'=>erun Γ N hpL ll bl full n (k+1) l fr'
  | none=>(k,o :: l,fr)
theorem Khm(hΓ:TOK P Γ){o:Oper}{hp:List Ob}(hs:inL ll k=true→Stays hpL hp)(h:pst Γ fr (bif inL ll k then hpL else[]) op=some g):QtE P N ⟨some d,op,ty,pos,after,gd'⟩ fr hp g hp:=by
 refine Khf (qt_p (Kqa hΓ ?_))
 cases hk:inL ll k with
 | true=>rw[hk] at h;exact Khb (hs hk) h
 | false=>rw[hk] at h;exact Khb (hpL:=[]) (fun i o h=>by simp at h) h
theorem Khn(hΓ:TOK P Γ){o:Oper}(h:estep Γ N hpL ll bl ops k fr o=some fr')(kk:GE P N hpL ll hl bl ops QF (k+1) rest fr' hp):GE P N hpL ll hl bl ops QF k (o :: rest) fr hp:=by
 unfold estep at h
 cases hnn:noNew bl k with
 | false=>rw[hnn] at h;cases h
 | true=>
 rw[hnn] at h
 simp only[cond_true] at h
 split at h
 ·rename_i d op ty pos after
  cases hd:Nat.blt d N with
  | false=>rw[hd] at h;cases h
  | true=>
   rw[hd] at h
   obtain⟨g,hg,rfl⟩:=oMs.1 h
   exact ge_q hd (.inl rfl) (fun hp hs=>Khm (o:=⟨some d,op,ty,pos,after,none⟩) hΓ hs hg) kk hnn
 ·rename_i d op ty pos after j want
  split at h
  ·rename_i hgd
   cases hd:Nat.blt d N with
   | false=>rw[hd] at h;cases h
   | true=>
    rw[hd] at h
    obtain⟨g,hg,rfl⟩:=oMs.1 h
    exact ge_q hd (.inr ⟨j,want,rfl,hgd⟩) (fun hp hs=>Khm (o:=⟨some d,op,ty,pos,after,some (j,want)⟩) hΓ hs hg) kk hnn
  ·rename_i hgd
   cases hd:Nat.blt d N with
   | false=>rw[hd] at h;cases h
   | true=>
    rw[hd] at h
    cases h
    exact Khg hd hgd kk hnn
  cases h
 cases h
theorem go_E(hΓ:TOK P Γ):∀ (n:Nat) {k k':Nat} {l l':List Oper} {fr fr':Fr},erun Γ N hpL ll bl ops n k l fr=(k',l',fr')→GE P N hpL ll hl bl ops QF k' l' fr' hp→GE P N hpL ll hl bl ops QF k l fr hp
 | 0,k,k',l,l',fr,fr',h,kk=>by cases h;exact kk
 | n+1,k,k',[],l',fr,fr',h,kk=>by cases h;exact kk
 | n+1,k,k',o :: l,l',fr,fr',h,kk=>by
  unfold erun at h
  split at h
  ·rename_i fr1 h1
   exact Khn hΓ h1 (go_E hΓ n h kk)
  cases h;exact kk
theorem Kho{o:Oper}(h:OpS P N o fr hp g hp'):QtE P N o fr hp g hp':=fun Z w M a hr K Q hK=>by
 obtain⟨v,w',M',h0,h1,h2,h3,h4⟩:=h Z w M a hr
 unfold Oper.wp
 rw[h0,Oper.upon_value]
 exact hK v w' M' h1 h2 h3 h4
theorem Khp{op:Op}(h:OpU P N ⟨none,op,ty,pos,after,gd'⟩ fr hp hp'):QtE P N ⟨none,op,ty,pos,after,gd'⟩ fr hp .junk hp':=fun Z w M a hr K Q hK=>by
 obtain⟨w',M',h0,h1,h3,h4⟩:=h Z w M a hr
 unfold Oper.wp
 rw[h0,Oper.upon_skip]
 exact hK undef w' M' h1 (.junk _) h3 h4
variable{fop:Operand}{args:Array Operand}{ts:Array TypeId}{f:FuncId}{g1 g2 gs:List G}
theorem Khq{dst:Option Tmp}{gc:List G}{hc hc':List Ob}{gr:G}(ρ:List Nat)(g':G)(hp2:List Ob)(hcl:Callable P f)(hc0:EC P f gc hc fun g hp'=>g=gr∧hp'=hc')(hf:fr.ev fop=some (.fn (.func f) g1 g2))(ha:args.toList.mapM fr.ev=some gs)
  (hl:Nat.beq ρ.length hc.length=true) (hnd:nodupB ρ=true) (hobj:callIn hp ρ=(hc.map (Ob.ren (rn ρ hp.length))).map some) (hb:hc.all (Ob.bel hc.length)=true) (hgb:G.belAll hc.length gc=true)
  (hgs:gc.map (G.ren (rn ρ hp.length))=g1++gs++g2) (hg':gr.ren (rn ρ hp.length)=g') (hhp:callObs hp ρ hc'=hp2) (hsl:hc=[]∨hp.all Ob.sole=true:=by first | exact rfl | exact .inr rfl | exact .inl rfl | assumption) :
  QtE P N ⟨dst,.call ⟨.value fop,args,ts⟩,ty,pos,after,gd'⟩ fr hp g' hp2:=fun Z w M a hr K Q hK=>by
 obtain⟨vs,hrun,l,r⟩:=Kqg (ts:=ts) (ty:=ty) (pos:=pos) (after:=after) (c:=hp) hr hf ha hcl dst
 have hrun':(execOp a.eval ⟨dst,.call ⟨.value fop,args,ts⟩,ty,pos,after,gd'⟩).run P w=.ok (.enter f vs) w:=hrun
 unfold Oper.wp
 rw[hrun',Oper.upon_enter]
 refine(EC.callF ρ hc0 hl hnd hobj hb hgb hgs hg' hhp hsl Z w M vs hr.heap l r).mono ?_
 rintro e w' ⟨v,g,hp',M',rfl,⟨rfl,rfl⟩,h1,h2,h3,h4⟩
 exact hK v w' M' h1 h2 h3 h4
theorem Khr{r:G}{gs':List G}(hcl:Callable P f)(hc:Pure P f gs r)(hd:Nat.blt d N=true)(hf:(fr.only (Oper.looksAt ops ⟨some d,.call ⟨.value fop,args,ts⟩,ty,pos,after,none⟩)).ev fop=some (.fn (.func f) g1 g2))
  (ha:args.toList.mapM (fr.only (Oper.looksAt ops ⟨some d,.call ⟨.value fop,args,ts⟩,ty,pos,after,none⟩)).ev=some gs') (hgs:gs=g1++gs'++g2) (hb:G.belAll 0 gs=true) (hb':r.bel 0=true)
  (kk:GE P N hpL ll hl bl ops QF (k+1) rest ((d,r) :: fr) hp) (hnn:noNew bl k=true:=by rfl):GE P N hpL ll hl bl ops QF k (⟨some d,.call ⟨.value fop,args,ts⟩,ty,pos,after,none⟩ :: rest) fr hp:=by
 subst hgs
 exact ge_q hd (.inl rfl) (fun hp _=>Khf (Kbz hf ha hcl hc hb hb')) kk hnn
theorem Khs{α:Type}{enc:α→List D}(hΓ:TOK P Γ){t e:TypeId}{len:Nat}{i1 i2:TI}{parts:Array (Nat×Operand)}{pg:List (Nat×G)}{gs:List G}(l:List α)(h1:Γ t=some i1)(h1':i1.desc=.slice e)(h2:Γ e=some i2)
  (hz:(i2.zero.cells.toList.all (·.oneCell'))=true) (hz':Nat.blt 0 i2.zero.cells.size=true) (hlen:Nat.ble (len * i2.size) 16777216=true) (hlen':Nat.ble len 16777216=true) (hp':evParts (fr.only (Oper.looksAt ops ⟨some d,.buildSlice t len parts,ty,pos,after,none⟩)) parts.toList=some pg) (hf:fillG (fun i=>some (i * i2.size,i2.size)) (zerosG i2 len) pg=some gs) (hds:toDs gs=some (l.flatMap enc)) (hlq:len=l.length)
  (hd:Nat.blt d N=true) (kk:GE P N hpL ll hl bl ops QF (k+1) rest ((d,.d (Sl enc l)) :: fr) hp) (hnn:noNew bl k=true:=by rfl):GE P N hpL ll hl bl ops QF k (⟨some d,.buildSlice t len parts,ty,pos,after,none⟩ :: rest) fr hp:=by
 subst hlq
 exact ge_q hd (.inl rfl) (fun hp _=>Khf (Kcc hΓ h1 h1' h2 hz hz' hlen hlen' hp' hf hds)) kk hnn
theorem Kht(hΓ:TOK P Γ){t:TypeId}{i:TI}(hi:Γ t=some i)(h1:(i.zero.cells.toList.all (·.oneCell'))=true):OpS P N ⟨some d,.alloc t,ty,pos,after,gd'⟩ fr hp (.ptr hp.length 0) (hp++[.box t (zeroG i)]):=fun Z w M a hr=>by
 obtain⟨_,inf,e1,e2,e3,e4⟩:=hΓ t i hi
 have hc:i.zero.cells.size=(zeroG i).length∧CellsR w (ownZ Z hp M) M i.zero.cells (zeroG i):=by
  refine⟨by simp[zeroG],fun j g hj=>?_⟩
  simp only[zeroG,List.getElem?_map] at hj
  obtain⟨c,hc,rfl⟩:=oMs.1 hj
  exact⟨c,by simpa using hc,lAe.1 h1 c (mOg hc),.d (Koz c (lAe.1 h1 c (mOg hc)))⟩
 obtain⟨r1,r2,r3⟩:=Kqm (t:=t) hr.heap hc
 refine⟨.pointer (some ⟨w.heap.size,0,none⟩),_,_,?_,r1,.ptr (c:=0) ?_,r2,r3⟩
 ·simp[execOp,Instr.alloc,zeroValue,typeInfo,e1,e4,newVar,newRow]
 rw[←hr.heap.len];simp
theorem Khu(hΓ:TOK P Γ){t:TypeId}{fs:Array Field}{i1:TI}{parts:Array (Nat×Operand)}{pg:List (Nat×G)}{gs:List G}(h1:Γ t=some i1)(h1':i1.desc=.struct fs)(hfs:(fs.toList.all fun f=>(Γ f.type).isSome)=true)
  (hz:(i1.zero.cells.toList.all (·.oneCell'))=true) (hp':evParts fr parts.toList=some pg) (hf:fillG (placesG Γ fs) (zeroG i1) pg=some gs)
  : OpP P N ⟨some d,.build t parts,ty,pos,after,gd'⟩ fr hp (.agg gs):=by
 intro Z w M a hr
 obtain⟨u1,inf,e1,e2,e3,e4⟩:=hΓ t _ h1
 rw[h1'] at u1
 obtain⟨r,p1,p2⟩:=Kbm (P:=P) (w:=w) hΓ fs.toList fun f hf=>lAe.1 hfs f hf
 have hpl:(fun i=>(r.toArray)[i]?)=placesG Γ fs:=by
  funext i
  rw[List.getElem?_toArray,p2 i]
  simp[placesG]
 have hpl':(fun i=>r[i]?)=placesG Γ fs:=by rw[←hpl];funext i;simp
 obtain⟨cs',r1,r2,r3,r4⟩:=Kbg (place:=placesG Γ fs) (cs:=i1.zero.cells) hr parts.toList hp' hf (by simp[zeroG]) (fun j g hj=>by
  simp only[zeroG,List.getElem?_map] at hj
  obtain⟨c,hc,rfl⟩:=oMs.1 hj
  exact⟨c,by simpa using hc,lAe.1 hz c (mOg hc),.d (Koz c (lAe.1 hz c (mOg hc)))⟩)
 refine⟨.agg cs',?_,.agg r2 fun j g v hg hv=>?_⟩
 ·have hm:(fs.mapM fun f=>(Prod.mk f.offset <$> sizeOf f.type:Sem (Nat×Nat))).run P w=.ok r.toArray w:=by
   rw[Array.mapM_eq_mapM_toList]
   simp[p1]
  simp[execOp,Instr.build,zeroValue,typeInfo,e1,e4,run_underlying u1,hm]
  rw[←hpl'] at r1
  simp[r1]
 ·obtain⟨v',f1,f2,f3⟩:=r4 j g hg
  rw[hv] at f1
  cases f1
  exact f3
theorem Khv(hΓ:TOK P Γ){t tb:TypeId}{x y:Operand}{i:TI}{id off:Nat}{gs new:List G}(hi:Γ t=some i)(hx:fr.ev x=some (.ptr id off))(ho:hp[id]?=some (.box tb gs))(hy:fr.ev y=some g)(hg:cellsG g=some new)
  (h1:new.all G.one=true) (hsz:Nat.beq new.length i.size=true) (hfit:Nat.ble (off+new.length) gs.length=true):OpU P N ⟨none,.store t x y,ty,pos,after,gd'⟩ fr hp (hp.set id (.box tb (setAt gs off new))):=fun Z w M a hr=>by
 have hvx:=hr.ev hx
 have hvy:=Kql (hr.ev hy) hg h1
 simp only[execOp]
 generalize a.eval x=vx at hvx
 cases hvx with
 | ptr hM=>
  rename_i b c
  obtain⟨cs,hb,hl,hcr⟩:=hr.heap.obj id _ _ ho hM
  have hfit':=nBe hfit
  have hvl:(a.eval y).cells.toList.length=new.length:=by simp[hvy.1]
  obtain⟨w',r1,r2,r3⟩:=Kqr (P:=P) (o':=.box tb (setAt gs off new)) hr.heap ho rfl hM hb (off:=off) (vs:=(a.eval y).cells.toList) (by rw[hvl,hl];exact hfit') (fun v hv=>by
    obtain⟨j,hj⟩:=List.getElem?_of_mem hv
    have hlt:j<new.length:=by rw[←hvl];exact(gEs.1 hj).1
    obtain⟨u,e1,e2,_⟩:=hvy.2 j _ (gGe hlt)
    have:some v=some u:=by rw[←e1,←hj];simp
    cases this;exact e2)
   (fun w' hst hh=>⟨_,hh,by simp[Kqq (show off+(a.eval y).cells.toList.length≤cs.toList.length by rw[hvl];simp[hl];exact hfit'),Kqq hfit',hl],CellsR.setAt
    (fun j g hj=>let ⟨v,e1,e2,e3⟩:=hcr j g hj;⟨v,e1,e2,e3.step hst (fun _ _=>rfl)⟩) (fun j g hj=>let ⟨v,e1,e2,e3⟩:=hvy.2 j g hj;⟨v,e1,e2,e3.step hst (fun _ _=>rfl)⟩) hvy.1 hfit' (by omega)⟩) rfl
  refine⟨w',M,?_,r2,r3,⟨by rw[hr.heap.len];exact Nat.le_refl _,fun _ _=>rfl⟩⟩
  have hs:=run_size' (P:=P) (w:=w) hΓ hi
  have:(a.eval y).cells.size=i.size:=by rw[hvy.1];exact nEq hsz
  simp[Instr.storeAt,Instr.sureAddr,storeVar,hs,this,r1]
end
end Go.Gk
