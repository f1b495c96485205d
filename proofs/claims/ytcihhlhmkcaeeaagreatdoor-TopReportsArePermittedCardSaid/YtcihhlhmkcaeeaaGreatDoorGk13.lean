import Derived.Test.YtcihhlhmkcaeeaaGreatDoorGk7
import Derived.Laws.AppendOwnNone
import Derived.Laws.OwnMore
import Derived.Great.FillDense
import Derived.Still
set_option linter.all false
namespace Go.Gk
theorem Kbb(w:World)(o:Obj)(k:Nat)(h:k<w.heap.size):(w.alloc o).heap[k]?=w.heap[k]?:=by
 show(w.heap.push o)[k]?=_
 rw[Array.getElem?_push,if_neg (by omega)]
mutual
def G.has(k:Nat):G→Bool
 | .d _ | .rp _ | .junk=>false
 | .ptr id _ | .sl id _ | .slo id _ _ _ | .map id | .pn id | .sa id _ _ | .sv id _ | .pv id _ | .svo id _ _=>Nat.beq id k
 | .agg gs | .tup gs=>G.hasAny k gs
 | .fn _ a b=>G.hasAny k a||G.hasAny k b
def G.hasAny(k:Nat):List G→Bool
 | []=>false
 | g :: r=>G.has k g||G.hasAny k r
end
def Ob.has(k:Nat):Ob→Bool
 | .box _ gs=>G.hasAny k gs
 | .row _ _ _ _=>false
 | .map _ _ _=>false
 | .iter mid _ _=>Nat.beq mid k
 | .siter _ _=>false
 | .rowv _ _ _ _=>false
 | .pm es=>es.any fun e=>e.2.has k
 | .bag _ _ lt=>lt.any fun a=>Nat.beq a.2 k
 | .dead=>false
theorem G.hasAny_spec{k:Nat}:∀ {gs:List G},G.hasAny k gs=false→∀ (j:Nat) (g:G),gs[j]?=some g→g.has k=false
 | [],_,j,g,h=>by simp at h
 | g0 :: r,hb,j,g,h=>by
  simp only[G.hasAny,Bool.or_eq_false_iff] at hb
  cases j with
  | zero=>simp at h;subst h;exact hb.1
  | succ j=>exact G.hasAny_spec hb.2 j g (by simpa using h)
theorem nbeq{a b:Nat}(h:Nat.beq a b=false):a≠b:=fun e=>by subst e;rw[Nat.beq_refl] at h;cases h
theorem VR.not{w O w' O'}{M M':Mp}{k:Nat}(h:Stp w O w' O')(hM:∀ i,i≠k→i<M.l.length→M'.l[i]?=M.l[i]?){g:G}{v:Value}(hv:VR w O M g v)(hb:g.has k=false):VR w' O' M' g v:=by
 induction hv with
 | d hd=>exact .d (hd.step h)
 | agg hl _ ih=>exact .agg hl fun j g v hg hv=>ih j g v hg hv (G.hasAny_spec hb j g hg)
 | ptr hp=>exact .ptr ((hM _ (nbeq hb) (Mp.lt hp)).trans hp)
 | rp vs hb' hO hc hv=>
  refine .rp vs (nLl hb' h.size) (fun j hj=>(hO j hj).step h hb') (fun j d hd=>?_) (fun j d hd=>(hv j d hd).step h)
  rw[←hc j d hd]
  exact(hO j (gEs.1 hd).1).cell h hb'
 | sl hp hn hm=>exact .sl ((hM _ (nbeq hb) (Mp.lt hp)).trans hp) hn hm
 | slnil hp=>exact .slnil ((hM _ (nbeq hb) (Mp.lt hp)).trans hp)
 | slo hp hn hm=>exact .slo ((hM _ (nbeq hb) (Mp.lt hp)).trans hp) hn hm
 | slonil hp=>exact .slonil ((hM _ (nbeq hb) (Mp.lt hp)).trans hp)
 | map hp=>exact .map ((hM _ (nbeq hb) (Mp.lt hp)).trans hp)
 | pnn hp=>exact .pnn ((hM _ (nbeq hb) (Mp.lt hp)).trans hp)
 | pns hp=>exact .pns ((hM _ (nbeq hb) (Mp.lt hp)).trans hp)
 | sa hp ho=>exact .sa ((hM _ (nbeq hb) (Mp.lt hp)).trans hp) ho
 | sv hp hn hm=>exact .sv ((hM _ (nbeq hb) (Mp.lt hp)).trans hp) hn hm
 | svnil hp=>exact .svnil ((hM _ (nbeq hb) (Mp.lt hp)).trans hp)
 | pv hp=>exact .pv ((hM _ (nbeq hb) (Mp.lt hp)).trans hp)
 | svo hp ho hn=>exact .svo ((hM _ (nbeq hb) (Mp.lt hp)).trans hp) ho hn
 | svonil hp=>exact .svonil ((hM _ (nbeq hb) (Mp.lt hp)).trans hp)
 | fn l1 l2 _ _ i1 i2=>
  simp only[G.has,Bool.or_eq_false_iff] at hb
  exact .fn l1 l2 (fun j g v hg hv=>i1 j g v hg hv (G.hasAny_spec hb.1 j g hg)) (fun j g v hg hv=>i2 j g v hg hv (G.hasAny_spec hb.2 j g hg))
 | tup hl _ ih=>exact .tup hl fun j g v hg hv=>ih j g v hg hv (G.hasAny_spec hb j g hg)
 | junk v=>exact .junk v
theorem ObR.not{w O w' O'}{M M':Mp}{k:Nat}(h:Stp w O w' O')(hM:∀ i,i≠k→i<M.l.length→M'.l[i]?=M.l[i]?){o:Ob}{m}(ho:ObR w O M o m)(hb:o.has k=false)
  (hblk:∀ b c,m=some (b,c)→o.live=true→w'.heap[b]?=w.heap[b]?) (hbag:∀ al ar lt,o=.bag al ar lt→M'.h=M.h∧∀ x:Tg,some x∈M.h→Kept M lt x→w'.heap[x.b]?=w.heap[x.b]?):ObR w' O' M' o m:=by
 cases o with
 | dead=>trivial
 | bag al ar lt=>
  match m,ho with
  | none,ho=>
   refine ObR.bag_move h ho (hbag al ar lt rfl).1 (hbag al ar lt rfl).2 fun t id hm=>?_
   obtain⟨x,c,_,_,h1⟩:=ho.2.2.2.2.2 t id hm
   have hne:Nat.beq id k=false:=Bool.eq_false_iff.2 (List.any_eq_false.1 hb _ hm)
   exact hM id (nbeq hne) (Mp.lt h1)
 | map _ es st=>
  match m,ho with
  | some (b,c),hm=>exact MapR.move h hm (hblk b c rfl rfl)
 | siter s pos=>
  match m,ho with
  | some (b,c),h1=>exact(hblk b c rfl rfl).trans h1
 | rowv t sz n gs=>
  match m,ho with
  | some (b,c),⟨h0,cs,h1,h2,h3,h4,hc⟩=>exact⟨h0,cs,(hblk b c rfl rfl).trans h1,h2,h3,h4,fun j d hd=>let ⟨v,e1,e2⟩:=hc j d hd;⟨v,e1,e2.step h⟩⟩
  | none,h=>exact h
 | pm es=>
  match m,ho with
  | some (b,c),⟨ms,cl,es',h1,hp,h2,h3,h4,h5⟩=>exact⟨ms,cl,es',(hblk b c rfl rfl).trans h1,hp,h2,h3,h4,fun j k g hg=>let ⟨e,e1,e2,e3,e4⟩:=h5 j k g hg;⟨e,e1,e2,e3,e4.not h hM (Bool.eq_false_iff.2 (List.any_eq_false.1 hb _ (hp.mem_iff.1 (mOg hg))))⟩⟩
 | iter mid cl seen=>
  match m,ho with
  | some (b,c),⟨bm,c',h1,h2⟩=>exact⟨bm,c',(hM _ (nbeq hb) (Mp.lt h1)).trans h1,(hblk b c rfl rfl).trans h2⟩
 | box t gs=>
  match m,ho with
  | some (b,c),⟨cs,h1,h2,hc⟩=>exact⟨cs,(hblk b c rfl rfl).trans h1,h2,fun j g hg=>let ⟨v,e1,e2,e3⟩:=hc j g hg;⟨v,e1,e2,e3.not h hM (G.hasAny_spec hb j g hg)⟩⟩
 | row t sz n gs=>
  match m,ho with
  | some (b,c),⟨h0,cs,h1,h2,h3,h4,hc⟩=>exact⟨h0,cs,(hblk b c rfl rfl).trans h1,h2,h3,h4,fun j d hd=>let ⟨v,e1,e2⟩:=hc j d hd;⟨v,e1,e2.step h⟩⟩
  | none,h=>exact h
def Fr.drop(k:Nat):Fr→Fr
 | []=>[]
 | (t,g) :: r=>bif g.has k then Fr.drop k r else(t,g) :: Fr.drop k r
def Fr.clean(k:Nat):Fr→Fr
 | []=>[]
 | (t,g) :: r=>(t,bif g.has k then .junk else g) :: Fr.clean k r
theorem Fr.clean_get{k:Nat}:∀ {fr:Fr} {t:Nat} {g:G},(fr.clean k).get t=some g→g=.junk∨(fr.get t=some g∧g.has k=false)
 | [],_,_,h=>by cases h
 | (t0,g0) :: r,t,g,h=>by
  simp only[Fr.clean,Fr.get] at h ⊢
  cases hk:Nat.beq t0 t with
  | true=>
   rw[hk] at h
   cases hh:g0.has k with
   | true=>rw[hh] at h;cases h;exact .inl rfl
   | false=>rw[hh] at h;cases h;exact .inr ⟨rfl,hh⟩
  | false=>rw[hk] at h;exact Fr.clean_get h
theorem Fr.clean_some{k:Nat}:∀ {fr:Fr} {t:Nat} {g:G},(fr.clean k).get t=some g→∃ g',fr.get t=some g'
 | [],_,_,h=>by cases h
 | (t0,g0) :: r,t,g,h=>by
  simp only[Fr.clean,Fr.get] at h ⊢
  cases hk:Nat.beq t0 t with
  | true=>exact⟨g0,rfl⟩
  | false=>rw[hk] at h;exact Fr.clean_some h
section
variable{P:Program}{Γ:TypeId→Option TI}{F N:Nat}{fr:Fr}{hp:List Ob}{g:G}{Q:GPost}{ops:Array Oper}{rest:List Oper}
variable{d:Tmp}{ty:TypeId}{pos:String}{after:Array Edge}
theorem Kbc{w:World}{O:Ow}{n:Nat}{xs:List D}{v:Value}(h:VD w O (.ro n xs) v) :
  (v=.slice none 0 0∧n=0∧xs=[])∨∃ (b off cap:Nat) (vs:List Value),v=.slice (some ⟨b,off,none⟩) n cap∧vs.length=xs.length∧(∀ (j:Nat) (u:Value),vs[j]?=some u→w.cell? ⟨b,off+j,none⟩=some u)∧(∀ (j:Nat) (u:Value) (d:D),vs[j]?=some u→xs[j]?=some d→VD w O d u)∧∀ u∈vs,u.oneCell'=true:=by
 cases h with
 | nil=>exact .inl ⟨rfl,rfl,rfl⟩
 | ro _ _ b off cap vs hb hO hn hm hc hv=>
  have hx:∀ j u,(xs.zipIdx.map fun p=>vs p.2)[j]?=some u→j<xs.length∧u=vs j:=fun j u hj=>by
   rw[gMp] at hj
   obtain⟨p,hp,rfl⟩:=oMs.1 hj
   have hlt:j<xs.zipIdx.length:=(gEs.1 hp).1
   simp at hlt
   rw[List.getElem?_zipIdx] at hp
   obtain⟨y,hy,e⟩:=oMs.1 hp
   subst e
   simp[hlt]
  refine .inr ⟨b,off,cap,xs.zipIdx.map fun p=>vs p.2,rfl,by simp,fun j u hj=>?_,fun j u d hj hd=>?_,fun u hu=>?_⟩
  ·obtain⟨h1,rfl⟩:=hx j u hj
   exact hc j _ (gGe h1)
  ·obtain⟨h1,rfl⟩:=hx j u hj
   exact hv j d hd
  ·obtain⟨j,hj⟩:=List.getElem?_of_mem hu
   obtain⟨h1,rfl⟩:=hx j u hj
   exact(hv j _ (gGe h1)).one
theorem Kbd{w:World}{t te tyo:TypeId}{inf:TypeInfo}{z:Value}{n m:Nat}{sv xv:Value}{cs0:Array Value}{news:List Value}(mo:Option (Nat×Nat))(hu:P.underlying t=some (.slice te))(hi:P.info? te=some inf)(hz:inf.zero=some z)(hzs:z.cells.size=inf.size)(hz0:0<inf.size)
  (hs:(mo=none∧sv=.slice none 0 0∧n=0)∨∃ b c,mo=some (b,c)∧sv=.slice (some ⟨b,0,none⟩) n c∧w.heap[b]?=some (.cells cs0 te (0,0))∧cs0.size=c * inf.size∧n≤c∧c≤maxLen)
  (hx:(xv=.slice none 0 0∧m=0∧news=[])∨∃ b off cap,xv=.slice (some ⟨b,off,none⟩) m cap∧(∀ j u,news[j]?=some u→w.cell? ⟨b,off+j,none⟩=some u)) (hl:news.length=m * inf.size) (h1:∀ u∈news,u.oneCell'=true)
  (hm:n+m≤maxLen) (hb:(n+m) * inf.bytes≤140737488355328) :
  ∃ v' w' mo',(Builtin.append_ #[t,t] tyo #[sv,xv]).run P w=.ok v' w'∧w.heap.size≤w'.heap.size∧w'.os=w.os∧w'.tape=w.tape∧w'.output=w.output∧
   ((mo'=none∧v'=.slice none 0 0∧n+m=0∧w'=w∧mo=none)∨∃ b' c' cur,mo'=some (b',c')∧v'=.slice (some ⟨b',0,none⟩) (n+m) c'∧w'.heap[b']?=some (.cells cur te (0,0))∧cur.size=c' * inf.size∧n+m≤c'∧c'≤maxLen∧
    (∀ j,j<n * inf.size→mo≠none→cur[j]?=cs0[j]?)∧(∀ j u,news[j]?=some u→cur[n * inf.size+j]?=some u)∧(∀ k,k<w.heap.size→k≠b'→w'.heap[k]?=w.heap[k]?)∧((∃ c,mo=some (b',c))∨b'=w.heap.size)):=by
 have hsmall:n+m≤9223372036854775807:=by simp only[maxLen] at hm;omega
 have hxc:∀ b off cap,xv=.slice (some ⟨b,off,none⟩) m cap→(∀ j u,news[j]?=some u→w.cell? ⟨b,off+j,none⟩=some u)→∀ j u,news[j]?=some u→w.cell? ((⟨b,off,none⟩:Addr).add j)=some u:=fun b off cap _ h j u hj=>by rw[Addr.add_lit];exact h j u hj
 rcases hx with⟨rfl,rfl,rfl⟩ | ⟨xb,xo,xc,rfl,hxcell⟩
 ·
  rcases hs with⟨rfl,rfl,rfl⟩ | ⟨b,c,rfl,rfl,hb',hcs,hnc,hcm⟩
  ·refine⟨.slice none 0 0,w,none,?_,Nat.le_refl _,rfl,rfl,rfl,.inl ⟨rfl,rfl,rfl,rfl,rfl⟩⟩
   simp[Builtin.append_,run_underlying hu,sizeOf,typeInfo,hi,Builtin.lenOf,Builtin.firstCells]
  ·refine⟨.slice (some ⟨b,0,none⟩) n c,w,some (b,c),?_,Nat.le_refl _,rfl,rfl,rfl,.inr ⟨b,c,cs0,rfl,rfl,hb',hcs,hnc,hcm,fun _ _ _=>rfl,fun j u h=>by simp at h,fun _ _ _=>rfl,.inl ⟨c,rfl⟩⟩⟩
   simp[Builtin.append_,run_underlying hu,sizeOf,typeInfo,hi,Builtin.lenOf,Builtin.firstCells,hnc,storeCells]
 ·have hxc':=hxc xb xo xc rfl hxcell
  rcases hs with⟨rfl,rfl,rfl⟩ | ⟨b,c,rfl,rfl,hb',hcs,hnc,hcm⟩
  ·by_cases hm0:m=0
   ·subst hm0
    have hn:news=[]:=List.eq_nil_of_length_eq_zero (by simpa using hl)
    subst hn
    refine⟨.slice none 0 0,w,none,?_,Nat.le_refl _,rfl,rfl,rfl,.inl ⟨rfl,rfl,rfl,rfl,rfl⟩⟩
    simp[Builtin.append_,run_underlying hu,sizeOf,typeInfo,hi,Builtin.lenOf,Builtin.firstCells,loadCells,loadCellsFrom]
   ·have hr:=run_append_nil (P:=P) w t tyo te inf z hu hi hz ⟨xb,xo,none⟩ m xc news hl hxc' (by omega) (by omega) (by simp only[Nat.zero_add] at hb;omega)
    have hge:=grownCap_ge w m 0 te
    have hcm:grownCap w m 0 te≤maxLen:=grownCap_le_maxLen w m 0 te (by omega)
    refine⟨_,_,some (w.heap.size,grownCap w m 0 te),hr,by simp,rfl,rfl,rfl,.inr ⟨w.heap.size,_,_,rfl,by simp,heap_alloc_new w.drew _,?_,by omega,hcm,fun j hj=>by simp at hj,fun j u hj=>?_,fun k hk hne=>Gk.Kbb w.drew _ k hk,.inr rfl⟩⟩
    ·simp only[Array.size_append,List.size_toArray,size_zeroCells,hzs,hl,←Nat.add_mul]
     congr 1
     omega
    ·have hlt:j<news.length:=(gEs.1 hj).1
     rw[Nat.zero_mul,Nat.zero_add,Array.getElem?_append_left (by simpa using hlt)]
     simpa using hj
  ·by_cases hroom:n+m≤c
   ·have hfit:n * inf.size+news.length≤cs0.size:=by rw[hl,hcs,←Nat.add_mul];exact Nat.mul_le_mul_right _ hroom
    have hr:=run_append_room (P:=P) w t tyo te inf hu hi b n c cs0 hb' ⟨xb,xo,none⟩ m xc news hl hxc' h1 hroom hfit
    refine⟨_,_,some (b,c),hr,by simp,rfl,rfl,rfl,.inr ⟨b,c,_,rfl,rfl,setRow_heap w b cs0 _ te _ hb',?_,hroom,hcm,fun j hj _=>?_,fun j u hj=>?_,fun k _ hne=>setRow_other w b k _ hne,.inl ⟨c,rfl⟩⟩⟩
    ·simp only[List.size_toArray,List.length_append,List.length_take,List.length_drop,Array.length_toList]
     omega
    ·rw[List.getElem?_toArray,List.append_assoc,gAl (by simp;omega),List.getElem?_take_of_lt hj]
     simp
    ·have hlt:j<news.length:=(gEs.1 hj).1
     have e:(cs0.toList.take (n * inf.size)).length=n * inf.size:=by simp;omega
     rw[List.getElem?_toArray,List.append_assoc,gAr (by omega),e,gAl (by omega)]
     simpa using hj
   ·have holds:∀ j u,(cs0.toList.take (n * inf.size))[j]?=some u→w.cell? ((⟨b,0,none⟩:Addr).add j)=some u:=fun j u hj=>by
     rw[Addr.add_lit,Nat.zero_add,cell_of_row w b j cs0 te _ hb']
     rw[List.getElem?_take] at hj
     split at hj
     ·simpa using hj
     ·cases hj
    have hxl:(cs0.toList.take (n * inf.size)).length=n * inf.size:=by
     have:=Nat.mul_le_mul_right inf.size hnc
     simp;omega
    have hr:=run_append_grow (P:=P) w t tyo te inf z hu hi hz ⟨b,0,none⟩ n c (cs0.toList.take (n * inf.size)) hxl holds ⟨xb,xo,none⟩ m xc news hl hxc' (by omega) (by omega) (growslice_fits (by omega) hb)
    have hge:=grownCap_ge w (n+m) c te
    have hcm:grownCap w (n+m) c te≤maxLen:=grownCap_le_maxLen w (n+m) c te hm
    refine⟨_,_,some (w.heap.size,grownCap w (n+m) c te),hr,by simp,rfl,rfl,rfl,.inr ⟨w.heap.size,_,_,rfl,rfl,heap_alloc_new w.drew _,?_,hge,hcm,fun j hj _=>?_,fun j u hj=>?_,fun k hk hne=>Gk.Kbb w.drew _ k hk,.inr rfl⟩⟩
    ·simp only[Array.size_append,List.size_toArray,size_zeroCells,hzs,hl,hxl,←Nat.add_mul]
     congr 1
     omega
    ·rw[Array.append_assoc,Array.getElem?_append_left (by simpa [hxl] using hj)]
     rw[List.getElem?_toArray,List.getElem?_take_of_lt hj]
     simp
    ·have hlt:j<news.length:=(gEs.1 hj).1
     rw[Array.append_assoc,Array.getElem?_append_right (by simp[hxl]),Array.getElem?_append_left (by simp[hxl];exact hlt)]
     simpa [hxl] using hj
theorem Kbe(hΓ:TOK P Γ){t te:TypeId}{i1 i2:TI}{x y:Operand}{id n m:Nat}{ds ys:List D}(h1:Γ t=some i1)(h1':i1.desc=.slice te)(h2:Γ te=some i2)(hz:Nat.beq i2.zero.cells.size i2.size=true)(hz0:Nat.blt 0 i2.size=true)
  (hx:fr.ev x=some (.sl id n)) (ho:hp[id]?=some (.row te i2.size n ds)) (hy:fr.ev y=some (.d (.ro m ys))) (hl:ys.length=m * i2.size) (hb:(n+m) * i2.bytes≤140737488355328) (hm:n+m≤maxLen)
  (hno:(hp.all fun o=>!o.has id)=true) (hd:Nat.blt d N=true) (hFid:Nat.ble F id=true)
  (k:EO P F N ops rest Q ((d,.sl id (n+m)) :: fr.clean id) (hp.set id (.row te i2.size (n+m) (ds++ys)))) :
  EO P F N ops (⟨some d,.call ⟨.builtin .append,#[x,y],#[t,t]⟩,ty,pos,after,none⟩ :: rest) Q fr hp:=by
 intro Z w0 O0 M0 w M a hs ha hr
 refine wpList_plain rfl fun K hK=>?_
 obtain⟨u1,_⟩:=hΓ t _ h1
 rw[h1'] at u1
 obtain⟨_,inf,e1,e2,e3,e4⟩:=hΓ te _ h2
 have hid:id<hp.length:=(gEs.1 ho).1
 have hidM:id<M.l.length:=by rw[hr.heap.len];exact hid
 have hzs:i2.zero.cells.size=inf.size:=by rw[e2];exact nEq hz
 have hvx:=hr.ev hx
 have hvy:=hr.ev hy
 have hob:=hr.heap.obj id _ _ ho (gGe hidM)
 generalize hmo:M.l[id]=mo at hob
 have hMid:M.l[id]?=some mo:=by rw[gGe hidM,hmo]
 have hsrc:∃ news:List Value,((a.eval y=.slice none 0 0∧m=0∧news=[])∨∃ b off cap,a.eval y=.slice (some ⟨b,off,none⟩) m cap∧(∀ (j:Nat) (u:Value),news[j]?=some u→w.cell? ⟨b,off+j,none⟩=some u))∧
   news.length=ys.length∧(∀ (j:Nat) (u:Value) (d:D),news[j]?=some u→ys[j]?=some d→VD w (ownZ Z hp M) d u)∧∀ u∈news,u.oneCell'=true:=by
  cases hvy with
  | d hd=>
   rcases Kbc hd with⟨e,rfl,rfl⟩ | ⟨b,off,cap,vs,e,hl,hc,hv,h1⟩
   ·exact⟨[],.inl ⟨e,rfl,rfl⟩,rfl,fun j u d h=>by simp at h,fun u h=>by cases h⟩
   ·exact⟨vs,.inr ⟨b,off,cap,e,hc⟩,hl,hv,h1⟩
 obtain⟨news,hsrc1,hsrc2,hsrc3,hsrc4⟩:=hsrc
 have hrow:∃ cs0:Array Value,((mo=none∧a.eval x=.slice none 0 0∧n=0)∨∃ b c,mo=some (b,c)∧a.eval x=.slice (some ⟨b,0,none⟩) n c∧w.heap[b]?=some (.cells cs0 te (0,0))∧cs0.size=c * inf.size∧n≤c∧c≤maxLen)∧
   (mo=none→ds=[])∧ds.length=n * inf.size∧(mo≠none→DataR w (ownZ Z hp M) cs0 ds):=by
  cases mo with
  | none=>
   obtain⟨rfl,rfl⟩:=hob
   refine⟨#[],.inl ⟨rfl,?_,rfl⟩,fun _=>rfl,by simp,fun h=>absurd rfl h⟩
   generalize a.eval x=vx at hvx
   cases hvx with
   | sl h _ _=>rw[hMid] at h;cases h
   | slnil h=>rfl
  | some bc=>
   obtain⟨b,c⟩:=bc
   obtain⟨hdl,cs,hb,hcs,hnc,hcm,hcr⟩:=hob
   refine⟨cs,.inr ⟨b,c,rfl,?_,hb,by rw[hcs,e2],hnc,hcm⟩,(fun h=>by cases h),by rw[hdl,e2],fun _=>hcr⟩
   generalize a.eval x=vx at hvx
   cases hvx with
   | sl h _ _=>rw[hMid] at h;cases h;rfl
   | slnil h=>rw[hMid] at h;cases h
 obtain⟨cs0,hrow1,hrow2,hrow3,hrow4⟩:=hrow
 obtain⟨v',w',mo',hrun,g1,g2,g3,g4,hres⟩:=Kbd (P:=P) (tyo:=ty) mo u1 e1 e4 hzs (by rw[e2];exact nblt.1 hz0) hrow1 hsrc1 (by rw[hsrc2,hl,e2]) hsrc4 hm (by rw[e3];exact hb)
 have hM':∀ i,i≠id→i<M.l.length→(M.set id mo').l[i]?=M.l[i]?:=fun i hi _=>gSn (Ne.symm hi)
 have hM'id:(M.set id mo').l[id]?=some mo':=by simp[hidM]
 let hp':=hp.set id (.row te i2.size (n+m) (ds++ys))
 have hset:∀ i,i≠id→hp'[i]?=hp[i]?:=fun i hi=>gSn (Ne.symm hi)
 have hsetid:hp'[id]?=some (.row te i2.size (n+m) (ds++ys)):=by simp[hp',hid]
 have hlive:∀ (c:Nat) (b:Nat),mo=some (b,c)→obOwn hp M b:=fun c b e=>⟨id,_,c,ho,rfl,by rw[hMid,e]⟩
 have hkeep:∀ b,b<w.heap.size→¬ own hp M b→w'.heap[b]?=w.heap[b]?:=fun b hb hn=>by
  rcases hres with⟨_,_,_,rfl,_⟩ | ⟨b',c',cur,r1,r2,r3,r4,r5,r6,r7,r8,r9,r10⟩
  ·rfl
  ·refine r9 b hb fun e=>?_
   subst e
   rcases r10 with⟨c,hc⟩ | h
   ·exact hn (.inl (hlive c b hc))
   ·omega
 have hob:∀ b,b<w.heap.size→obOwn hp' (M.set id mo') b→obOwn hp M b:=by
  rintro b hb ⟨i,o,c,h1,h2,h3⟩
  by_cases hi:i=id
  ·subst hi
   rw[hM'id] at h3
   rcases hres with⟨r1,_⟩ | ⟨b',c',cur,r1,r2,r3,r4,r5,r6,r7,r8,r9,r10⟩
   ·rw[r1] at h3;cases h3
   ·rw[r1] at h3
    cases h3
    rcases r10 with⟨c,hc⟩ | h
    ·exact hlive c b hc
    ·omega
  ·rw[hset i hi] at h1
   rw[hM' i hi (by rw[hr.heap.len];exact(gEs.1 h1).1)] at h3
   exact⟨i,o,c,h1,h2,h3⟩
 have hbg:∀ (i:Nat) (al:List Bool) (ar:List Ar) (lt:List (Nat×Nat)),hp'[i]?=some (.bag al ar lt)→hp[i]?=some (.bag al ar lt):=Koe rfl
 have hown:∀ b,b<w.heap.size→own hp' (M.set id mo') b→own hp M b:=fun b hb h=>Kod h (hob b hb) (fun g=>g.of hbg) rfl
 have htags:KeepT hp M w w':=fun x hx hno=>by
  rcases hres with⟨_,_,_,rfl,_⟩ | ⟨b',c',cur,r1,r2,r3,r4,r5,r6,r7,r8,r9,r10⟩
  ·rfl
  ·refine r9 x.b (hr.heap.bags.tgs x hx).1 fun e=>?_
   rcases r10 with⟨c,hc⟩ | h
   ·exact hno (e▸hlive c b' hc)
   ·have:=(hr.heap.bags.tgs x hx).1;omega
 have hst:Stp w (own hp M) w' (own hp' (M.set id mo')):=.mk' g1 hkeep hown g2 g3 g4 rfl (fun g=>g.of hbg) (hr.heap.bags.ht htags)
 have hob':∀ i o c b,i≠id→hp[i]?=some o→o.live=true→M.l[i]?=some (some (b,c))→w'.heap[b]?=w.heap[b]?:=fun i o c b hi h1 h2 h3=>by
  have hlt:=hr.heap.block_ob ⟨i,o,c,h1,h2,h3⟩
  rcases hres with⟨_,_,_,rfl,_⟩ | ⟨b',c',cur,r1,r2,r3,r4,r5,r6,r7,r8,r9,r10⟩
  ·rfl
  ·refine r9 b hlt fun e=>?_
   subst e
   rcases r10 with⟨c2,hc⟩ | h
   ·exact hi (hr.heap.inj i id o _ b c c2 h1 ho h2 rfl h3 (by rw[hMid,hc]))
   ·omega
 have hnew:∀ i o b c,i≠id→hp[i]?=some o→o.live=true→M.l[i]?=some (some (b,c))→∀ c',mo'=some (b,c')→False:=fun i o b c hi h1 h2 h3 c' he=>by
  have hlt:=hr.heap.block_ob ⟨i,o,c,h1,h2,h3⟩
  rcases hres with⟨r1,_⟩ | ⟨b',c2,cur,r1,r2,r3,r4,r5,r6,r7,r8,r9,r10⟩
  ·rw[r1] at he;cases he
  ·rw[r1] at he
   cases he
   rcases r10 with⟨c3,hc⟩ | h
   ·exact hi (hr.heap.inj i id o _ b c c3 h1 ho h2 rfl h3 (by rw[hMid,hc]))
   ·omega
 have hrh:RelH Z hp' (M.set id mo') w':=by
  refine⟨by simp[hp',hr.heap.len],fun i o m' h1 h2=>?_,fun b hb hz=>?_,fun b hz=>nLl (hr.heap.old b hz) g1,hr.heap.amb_stp hst,fun i j oi oj b c c' hi hj li lj mi mj=>?_,hr.heap.bags.mono rfl g1 hob hbg⟩
  ·by_cases hi:i=id
   ·subst hi
    rw[hsetid] at h1
    rw[hM'id] at h2
    cases h1;cases h2
    rcases hres with⟨rfl,r2,r3,r4,rfl⟩ | ⟨b',c',cur,rfl,r2,r3,r4,r5,r6,r7,r8,r9,r10⟩
    ·have:ds=[]:=hrow2 rfl
     have hm0:m=0:=by omega
     subst hm0
     have:ys=[]:=List.eq_nil_of_length_eq_zero (by simpa using hl)
     subst this
     exact⟨by simp[*],r3⟩
    ·refine⟨by rw[List.length_append,hrow3,hl,e2,Nat.add_mul],cur,r3,by rw[r4,e2],r5,r6,fun j dd hj=>?_⟩
     by_cases hjn:j<ds.length
     ·rw[gAl hjn] at hj
      have hmo:mo≠none:=fun e=>by have:=hrow2 e;subst this;simp at hjn
      obtain⟨v,f1,f2⟩:=hrow4 hmo j dd hj
      exact⟨v,by rw[r7 j (by rw[←hrow3];exact hjn) hmo];exact f1,f2.step (Koi Z hst)⟩
     ·rw[gAr (by omega)] at hj
      have hlt:j - ds.length<news.length:=by rw[hsrc2];exact(gEs.1 hj).1
      have hn:=gGe hlt
      refine⟨news[j - ds.length],?_,(hsrc3 _ _ dd hn hj).step (Koi Z hst)⟩
      have:=r8 _ _ hn
      rw[←hrow3] at this
      rw[←this]
      congr 1
      omega
   ·rw[hset i hi] at h1
    rw[hM' i hi (by rw[hr.heap.len];exact(gEs.1 h1).1)] at h2
    refine(hr.heap.obj i o m' h1 h2).not (k:=id) (Koi Z hst) hM' ?_ (fun b c e hl2=>?_) (hr.heap.bags.kp htags rfl h1)
    ·have:=lAe.1 hno o (mOg h1)
     simpa using this
    ·subst e
     exact hob' i o c b hi h1 hl2 h2
  ·by_cases hb':b<w.heap.size
   ·exact hr.heap.apart b (hown b hb' hb) hz
   ·exact absurd (hr.heap.old b hz) hb'
  ·by_cases hi1:i=id
   ·by_cases hj1:j=id
    ·rw[hi1,hj1]
    ·exfalso
     subst hi1
     rw[hM'id] at mi
     rw[hset j hj1] at hj
     rw[hM' j hj1 (by rw[hr.heap.len];exact(gEs.1 hj).1)] at mj
     exact hnew j oj b c' hj1 hj lj mj c (by cases mi;rfl)
   ·rw[hset i hi1] at hi
    rw[hM' i hi1 (by rw[hr.heap.len];exact(gEs.1 hi).1)] at mi
    by_cases hj1:j=id
    ·exfalso
     subst hj1
     rw[hM'id] at mj
     exact hnew i oi b c hi1 hi li mi c' (by cases mj;rfl)
    ·rw[hset j hj1] at hj
     rw[hM' j hj1 (by rw[hr.heap.len];exact(gEs.1 hj).1)] at mj
     exact hr.heap.inj i j oi oj b c c' hi hj li lj mi mj
 have hvr:VR w' (ownZ Z hp' (M.set id mo')) (M.set id mo') (.sl id (n+m)) v':=by
  rcases hres with⟨rfl,rfl,r3,r4,rfl⟩ | ⟨b',c',cur,rfl,rfl,r3,r4,r5,r6,r7,r8,r9,r10⟩
  ·rw[r3];exact .slnil hM'id
  ·exact .sl hM'id r5 r6
 have hfr:Rel Z hp' (M.set id mo') w' (fr.clean id) a N:=by
  refine⟨hrh,fun t' g hg=>?_,hr.size,hr.defers⟩
  rcases Fr.clean_get hg with rfl | ⟨h1,h2⟩
  ·obtain⟨g',hg'⟩:=Fr.clean_some hg
   obtain⟨v,f1,_⟩:=hr.fr t' g' hg'
   exact⟨v,f1,.junk v⟩
  ·obtain⟨v,f1,f2⟩:=hr.fr t' g h1
   exact⟨v,f1,f2.not (Koi Z hst) hM' h2⟩
 unfold Oper.wp
 have hexec:(execOp a.eval ⟨some d,.call ⟨.builtin .append,#[x,y],#[t,t]⟩,ty,pos,after,none⟩).run P w=.ok (.value v') w':=by
  simp[execOp,resolve,invoke,builtin,hrun]
 rw[hexec,Oper.upon_value]
 have hF:=nBe hFid
 exact hK _ _ (k Z w0 O0 M0 w' _ _ (hs.trans hst) (ha.trans (F':=F) ⟨by simp;omega,fun i hi=>hM' i (by omega) (by omega)⟩ (Nat.le_refl _)) (hfr.put (nblt.1 hd) hvr))
end
end Go.Gk
namespace Go.Gk
def fillG(place:Nat→Option (Nat×Nat)):List G→List (Nat×G)→Option (List G)
 | cells,[]=>some cells
 | cells,(i,g) :: rest=>match place i,cellsG g with
  | some (off,size),some gs=>bif Nat.beq gs.length size&&Nat.ble (off+size) cells.length&&gs.all G.one then fillG place (setAt cells off gs) rest else none
  | _,_=>none
def evParts(fr:Fr):List (Nat×Operand)→Option (List (Nat×G))
 | []=>some []
 | (i,x) :: r=>match fr.ev x,evParts fr r with
  | some g,some l=>some ((i,g) :: l)
  | _,_=>none
def toDs:List G→Option (List D)
 | []=>some []
 | .d x :: r=>match toDs r with
  | some l=>some (x :: l)
  | none=>none
 | _=>none
theorem Kbf:∀ {gs:List G} {ds:List D},toDs gs=some ds→gs=ds.map G.d
 | [],ds,h=>by simp[toDs] at h;subst h;rfl
 | .d x :: r,ds,h=>by
  simp only[toDs] at h
  cases hr:toDs r with
  | none=>rw[hr] at h;cases h
  | some l=>
   rw[hr] at h
   cases h
   simp[Kbf hr]
 | .agg _ :: _,_,h | .ptr _ _ :: _,_,h | .rp _ :: _,_,h | .sl _ _ :: _,_,h | .slo _ _ _ _ :: _,_,h | .map _ :: _,_,h | .pn _ :: _,_,h | .sa _ _ _ :: _,_,h | .sv _ _ :: _,_,h | .pv _ _ :: _,_,h | .svo _ _ _ :: _,_,h | .fn _ _ _ :: _,_,h | .tup _ :: _,_,h | .junk :: _,_,h=>by simp[toDs] at h
section
variable{P:Program}{Γ:TypeId→Option TI}{F N:Nat}{fr:Fr}{hp:List Ob}{g:G}{Q:GPost}{ops:Array Oper}{rest:List Oper}
variable{d:Tmp}{ty:TypeId}{pos:String}{after:Array Edge}{Z:Env}{M:Mp}{w:World}{a:Act}
theorem Kbg(hr:Rel Z hp M w fr a N){place:Nat→Option (Nat×Nat)}:∀ (ps:List (Nat×Operand)) {pg:List (Nat×G)} {gs gs':List G} {cs:Array Value},evParts fr ps=some pg→fillG place gs pg=some gs'→cs.size=gs.length→CellsR w (ownZ Z hp M) M cs gs→
  ∃ cs',Instr.fill place cs (ps.map fun p=>(p.1,a.eval p.2))=some cs'∧cs'.size=gs'.length∧gs'.length=gs.length∧CellsR w (ownZ Z hp M) M cs' gs'
 | [],pg,gs,gs',cs,h1,h2,h3,h4=>by
  simp[evParts] at h1
  subst h1
  simp[fillG] at h2
  subst h2
  exact⟨cs,rfl,h3,rfl,h4⟩
 | (i,x) :: ps,pg,gs,gs',cs,h1,h2,h3,h4=>by
  simp only[evParts] at h1
  cases hx:fr.ev x with
  | none=>rw[hx] at h1;simp at h1
  | some g0=>
   cases hl:evParts fr ps with
   | none=>rw[hx,hl] at h1;simp at h1
   | some l0=>
    rw[hx,hl] at h1
    cases h1
    simp only[fillG] at h2
    split at h2
    ·rename_i off size gs0 hp0 hc0
     cases hb:(Nat.beq gs0.length size&&Nat.ble (off+size) gs.length&&gs0.all G.one) with
     | false=>rw[hb] at h2;cases h2
     | true=>
      rw[hb] at h2
      simp only[Bool.and_eq_true] at hb
      obtain⟨⟨b1,b2⟩,b3⟩:=hb
      have b1':=nEq b1
      have b2':=nBe b2
      obtain⟨c1,c2⟩:=Kql (hr.ev hx) hc0 b3
      have hfit:off+gs0.length≤gs.length:=by omega
      obtain⟨g1,g2⟩:=Great.foldl_set off (a.eval x).cells.toList 0 cs
      have hnew:CellsR w (ownZ Z hp M) M (((a.eval x).cells.toList.zipIdx 0).foldl (fun cs (x:Value×Nat)=>cs.setIfInBounds (off+x.2) x.1) cs) (setAt gs off gs0):=by
       intro j g hj
       rw[g2 j]
       rw[Kqp (by omega)] at hj
       by_cases hin:off≤j∧j<off+gs0.length
       ·rw[if_pos hin] at hj
        rw[if_pos (by simp[c1];omega)]
        obtain⟨v,e1,e2,e3⟩:=c2 _ g hj
        exact⟨v,by simpa using e1,e2,e3⟩
       ·rw[if_neg hin] at hj
        rw[if_neg (by simp[c1];omega)]
        exact h4 j g hj
      obtain⟨cs',r1,r2,r3,r4⟩:=Kbg hr ps hl h2 (by rw[g1,h3,Kqq hfit]) hnew
      refine⟨cs',?_,r2,by rw[r3,Kqq hfit],r4⟩
      simp only[List.map_cons]
      unfold Instr.fill
      simp only[hp0,c1,b1']
      rw[if_neg (by simp;omega),←r1]
      congr 1
      rw[←Array.foldl_toList,Array.toList_zipIdx]
    ·cases h2
theorem Kbh(hr:RelH Z hp M w)(o:Obj):RelH Z hp M (w.alloc o)∧Stp w (own hp M) (w.alloc o) (own hp M)∧¬ ownZ Z hp M w.heap.size:=by
 have htags:∀ x:Tg,some x∈M.h→(w.alloc o).heap[x.b]?=w.heap[x.b]?:=fun x hx=>Kbb w o _ (hr.bags.tgs x hx).1
 have hst:Stp w (own hp M) (w.alloc o) (own hp M):=.mk' (by simp) (fun b hb _=>Kbb w o b hb) (fun _ _ h=>h) rfl rfl rfl rfl (fun g=>g) fun x hx _=>htags x hx
 refine⟨⟨hr.len,fun i o' m h1 h2=>?_,hr.apart,fun b hb=>by have:=hr.old b hb;simp;omega,hr.amb_stp hst,hr.inj,hr.bags.mono rfl (by simp) (fun _ _ h=>h) (fun _ _ _ _ h=>h)⟩,hst,?_⟩
 ·have:=hr.obj i o' m h1 h2
  refine this.move (k:=M.l.length) (Koi Z hst) (fun _ _=>rfl) this.bel (fun b c e hl=>?_) fun _ _ _ _=>⟨rfl,fun x hx _=>htags x hx⟩
  subst e
  exact Kbb w o b (hr.block_ob ⟨i,o',c,h1,hl,h2⟩)
 rintro(h | h)
 ·have:=hr.block_lt h;omega
 have:=hr.old _ (Z.hv _ h);omega
def zerosG(i:TI)(len:Nat):List G:=(List.range (len * i.size)).map fun j=>.d (nilD (i.zero.cells[j % i.zero.cells.size]!))
theorem Kbi{O:Ow}{i:TI}{len:Nat}(h1:(i.zero.cells.toList.all (·.oneCell'))=true)(h2:Nat.blt 0 i.zero.cells.size=true) :
  ((Array.range (len * i.size)).map (i.zero.cells[· % i.zero.cells.size]!)).size=(zerosG i len).length∧CellsR w O M ((Array.range (len * i.size)).map (i.zero.cells[· % i.zero.cells.size]!)) (zerosG i len):=by
 refine⟨by simp[zerosG],fun j g hj=>?_⟩
 simp only[zerosG,List.getElem?_map] at hj
 obtain⟨k,hk,rfl⟩:=oMs.1 hj
 have hlt:j<len * i.size:=by have:=(gEs.1 hk).1;simpa using this
 have hkj:k=j:=by have:=(gEs.1 hk).2;simpa using this.symm
 subst hkj
 have h0:k % i.zero.cells.size<i.zero.cells.size:=Nat.mod_lt _ (nblt.1 h2)
 have e:i.zero.cells[k % i.zero.cells.size]! = i.zero.cells[k % i.zero.cells.size]'h0:=getElem!_pos i.zero.cells (k % i.zero.cells.size) h0
 have h1':=lAe.1 h1 (i.zero.cells[k % i.zero.cells.size]'h0) (by simp)
 refine⟨i.zero.cells[k % i.zero.cells.size]!,by simp[hlt],by rw[e];exact h1',.d (Koz _ (by rw[e];exact h1'))⟩
theorem Kbj(hΓ:TOK P Γ){t e:TypeId}{len:Nat}{i1 i2:TI}{parts:Array (Nat×Operand)}{pg:List (Nat×G)}{gs:List G}(hr:Rel Z hp M w fr a N)(h1:Γ t=some i1)(h1':i1.desc=.slice e)(h2:Γ e=some i2)
  (hz:(i2.zero.cells.toList.all (·.oneCell'))=true) (hz':Nat.blt 0 i2.zero.cells.size=true) (hlen:Nat.ble (len * i2.size) 16777216=true) (hp':evParts fr parts.toList=some pg) (hf:fillG (fun i=>some (i * i2.size,i2.size)) (zerosG i2 len) pg=some gs) :
  ∃ cs,(Instr.buildSlice t len (parts.map fun (i,x)=>(i,a.eval x))).run P w=.ok (.slice (some ⟨w.heap.size,0,none⟩) len len) (w.alloc (.cells cs e))∧cs.size=gs.length∧gs.length=len * i2.size∧CellsR w (ownZ Z hp M) M cs gs:=by
 obtain⟨u1,_⟩:=hΓ t _ h1
 rw[h1'] at u1
 obtain⟨_,inf,e1,e2,e3,e4⟩:=hΓ e _ h2
 have hs:=run_size' (P:=P) (w:=w) hΓ h2
 obtain⟨z1,z2⟩:=Kbi (w:=w) (O:=ownZ Z hp M) (M:=M) (len:=len) hz hz'
 have key:∀ z0:Array Value,CellsR w (ownZ Z hp M) M ((Array.range (len * i2.size)).map (z0[· % z0.size]!)) (zerosG i2 len)→
   ∃ cs',Instr.fill (fun i=>some (i * i2.size,i2.size)) ((Array.range (len * i2.size)).map (z0[· % z0.size]!)) (parts.toList.map fun p=>(p.1,a.eval p.2))=some cs'∧cs'.size=gs.length∧gs.length=(zerosG i2 len).length∧CellsR w (ownZ Z hp M) M cs' gs:=fun z0 hz0=>
  Kbg hr parts.toList hp' hf (by simp[zerosG]) hz0
 have hle:¬ (len * i2.size>2 ^ 24):=by have:=nBe hlen;omega
 by_cases h0:len * i2.size=0
 ·obtain⟨cs',r1,r2,r3,r4⟩:=key #[] (by
   have:zerosG i2 len=[]:=by simp[zerosG,h0]
   rw[this];intro j g hj;simp at hj)
  refine⟨cs',?_,r2,by rw[r3];simp[zerosG],r4⟩
  simp[Instr.buildSlice,run_underlying u1,hs,hle,h0,newRow]
  simp[h0] at r1
  simp[r1]
 ·obtain⟨cs',r1,r2,r3,r4⟩:=key i2.zero.cells z2
  refine⟨cs',?_,r2,by rw[r3];simp[zerosG],r4⟩
  simp[Instr.buildSlice,run_underlying u1,hs,hle,h0,newRow,zeroValue,typeInfo,e1,e4]
  simp[r1]
theorem Kbk(hΓ:TOK P Γ){t e:TypeId}{len:Nat}{i1 i2:TI}{parts:Array (Nat×Operand)}{pg:List (Nat×G)}{gs:List G}{ds:List D}(h1:Γ t=some i1)(h1':i1.desc=.slice e)(h2:Γ e=some i2)
  (hz:(i2.zero.cells.toList.all (·.oneCell'))=true) (hz':Nat.blt 0 i2.zero.cells.size=true) (hlen:Nat.ble (len * i2.size) 16777216=true) (hlen':Nat.ble len 16777216=true) (hp':evParts fr parts.toList=some pg) (hf:fillG (fun i=>some (i * i2.size,i2.size)) (zerosG i2 len) pg=some gs) (hds:toDs gs=some ds)
  (hd:Nat.blt d N=true) (hF:F≤hp.length) (k:EO P F N ops rest Q ((d,.d (.ro len ds)) :: fr) hp):EO P F N ops (⟨some d,.buildSlice t len parts,ty,pos,after,none⟩ :: rest) Q fr hp:=by
 refine eo_s hF (nblt.1 hd) (fun Z w M a hr=>?_) k
 obtain⟨cs,r1,r2,r3,r4⟩:=Kbj hΓ hr h1 h1' h2 hz hz' hlen hp' hf
 obtain⟨f1,f2,f3⟩:=Kbh hr.heap (.cells cs e)
 have hgs:=Kbf hds
 have hlen'':len≤maxLen:=by have:=nBe hlen';simp only[maxLen];omega
 refine⟨_,_,M,by simp[execOp,r1];rfl,f1,?_,f2,⟨by rw[hr.heap.len];exact Nat.le_refl _,fun _ _=>rfl⟩⟩
 have hb:=heap_alloc_new w (.cells cs e)
 have hrd:∀ j dd,ds[j]?=some dd→∃ v,cs[j]?=some v∧VD w (ownZ Z hp M) dd v:=fun j dd hj=>by
  obtain⟨v,e1,e2,e3⟩:=r4 j (.d dd) (by rw[hgs,gMp,hj];rfl)
  cases e3 with
  | d h=>exact⟨v,e1,h⟩
 refine .d (.ro len ds w.heap.size 0 len (fun j=>cs.getD j undef) (by simp) (fun _ _ h=>absurd h f3) (Nat.le_refl _) hlen'' (fun j dd hj=>?_) (fun j dd hj=>?_))
 ·obtain⟨v,e1,_⟩:=hrd j dd hj
  rw[Nat.zero_add,cell_of_row _ _ j cs _ _ hb]
  simp[e1]
 ·obtain⟨v,e1,e2⟩:=hrd j dd hj
  simpa [e1] using e2.step (Koi Z f2)
theorem Kbl(hΓ:TOK P Γ){t e:TypeId}{len:Nat}{i1 i2:TI}{parts:Array (Nat×Operand)}{pg:List (Nat×G)}{gs:List G}{ds:List D}(h1:Γ t=some i1)(h1':i1.desc=.slice e)(h2:Γ e=some i2)
  (hz:(i2.zero.cells.toList.all (·.oneCell'))=true) (hz':Nat.blt 0 i2.zero.cells.size=true) (hlen:Nat.ble (len * i2.size) 16777216=true) (hlen':Nat.ble len 16777216=true) (hp':evParts fr parts.toList=some pg) (hf:fillG (fun i=>some (i * i2.size,i2.size)) (zerosG i2 len) pg=some gs) (hds:toDs gs=some ds)
  (hd:Nat.blt d N=true) (hF:F≤hp.length) (k:EO P F N ops rest Q ((d,.sl hp.length len) :: fr) (hp++[.row e i2.size len ds])):EO P F N ops (⟨some d,.buildSlice t len parts,ty,pos,after,none⟩ :: rest) Q fr hp:=by
 refine eo_s hF (nblt.1 hd) (fun Z w M a hr=>?_) k
 obtain⟨cs,r1,r2,r3,r4⟩:=Kbj hΓ hr h1 h1' h2 hz hz' hlen hp' hf
 have hgs:=Kbf hds
 have hlen'':len≤maxLen:=by have:=nBe hlen';simp only[maxLen];omega
 have hdl:ds.length=len * i2.size:=by rw[←r3,hgs];simp
 obtain⟨f1,f2,f3⟩:=Kqk hr.heap (.row e i2.size len ds) cs e len fun w' O' hst hh=>⟨hdl,cs,hh,by rw[r2,r3],Nat.le_refl _,hlen'',fun j dd hj=>by
  obtain⟨v,e1,e2,e3⟩:=r4 j (.d dd) (by rw[hgs,gMp,hj];rfl)
  cases e3 with
  | d h=>exact⟨v,e1,h.step hst⟩⟩
 refine⟨_,_,_,by simp[execOp,r1];rfl,f1,.sl (c:=len) ?_ (Nat.le_refl _) hlen'',f2,f3⟩
 rw[←hr.heap.len];simp
def placesG(Γ:TypeId→Option TI)(fs:Array Field)(i:Nat):Option (Nat×Nat):=(fs[i]?).bind fun f=>(Γ f.type).map fun i=>(f.offset,i.size)
theorem Kbm(hΓ:TOK P Γ):∀ (l:List Field),(∀ f∈l,(Γ f.type).isSome=true)→∃ r:List (Nat×Nat),(l.mapM fun f=>(Prod.mk f.offset <$> sizeOf f.type:Sem (Nat×Nat))).run P w=.ok r w∧∀ i:Nat,r[i]?=(l[i]?).bind fun f=>(Γ f.type).map fun i=>(f.offset,i.size)
 | [],_=>⟨[],rfl,fun i=>by simp⟩
 | f :: l,h=>by
  obtain⟨r,h1,h2⟩:=Kbm hΓ l fun f hf=>h f (mCo _ hf)
  obtain⟨i,hi⟩:=Option.isSome_iff_exists.1 (h f mCs)
  refine⟨(f.offset,i.size) :: r,?_,fun j=>?_⟩
  ·rw[List.mapM_cons]
   simp[run_size' hΓ hi,h1]
  cases j with
  | zero=>simp[hi]
  | succ j=>simpa using h2 j
theorem Kbn(hΓ:TOK P Γ){t:TypeId}{fs:Array Field}{i1:TI}{parts:Array (Nat×Operand)}{pg:List (Nat×G)}{gs:List G}(h1:Γ t=some i1)(h1':i1.desc=.struct fs)(hfs:(fs.toList.all fun f=>(Γ f.type).isSome)=true)
  (hz:(i1.zero.cells.toList.all (·.oneCell'))=true) (hp':evParts fr parts.toList=some pg) (hf:fillG (placesG Γ fs) (zeroG i1) pg=some gs)
  (hd:Nat.blt d N=true) (k:EO P F N ops rest Q ((d,.agg gs) :: fr) hp):EO P F N ops (⟨some d,.build t parts,ty,pos,after,none⟩ :: rest) Q fr hp:=by
 refine eo_p hd (fun Z w M a hr=>?_) k
 obtain⟨u1,inf,e1,e2,e3,e4⟩:=hΓ t _ h1
 rw[h1'] at u1
 obtain⟨r,p1,p2⟩:=Kbm (P:=P) (w:=w) hΓ fs.toList fun f hf=>lAe.1 hfs f hf
 have hpl:(fun i=>(r.toArray)[i]?)=placesG Γ fs:=by
  funext i
  rw[List.getElem?_toArray,p2 i]
  simp[placesG]
 have hpl':(fun i=>r[i]?)=placesG Γ fs:=by rw[←hpl];funext i;simp
 obtain⟨cs',r1,r2,r3,r4⟩:=Kbg (place:=placesG Γ fs) (cs:=i1.zero.cells) hr parts.toList hp' hf (by simp[zeroG]) (fun j g hj=>by
  simp only[zeroG,List.getElem?_map] at hj
  obtain⟨c,hc,rfl⟩:=oMs.1 hj
  exact⟨c,by simpa using hc,lAe.1 hz c (mOg hc),.d (Koz c (lAe.1 hz c (mOg hc)))⟩)
 refine⟨.agg cs',?_,.agg r2 fun j g v hg hv=>?_⟩
 ·have hm:(fs.mapM fun f=>(Prod.mk f.offset <$> sizeOf f.type:Sem (Nat×Nat))).run P w=.ok r.toArray w:=by
   rw[Array.mapM_eq_mapM_toList]
   simp[p1]
  simp[execOp,Instr.build,zeroValue,typeInfo,e1,e4,run_underlying u1,hm]
  rw[←hpl'] at r1
  simp[r1]
 ·obtain⟨v',f1,f2,f3⟩:=r4 j g hg
  rw[hv] at f1
  cases f1
  exact f3
end
end Go.Gk
namespace Go.Gk
def Qt(P:Program)(N:Nat)(o:Oper)(fr:Fr)(hp:List Ob)(g:G):Prop:=
 ∀ Z w M a,Rel Z hp M w fr a N→∀ (K:Act→World→Prop) (Q:Exit→Act→World→Prop),
  (∀ v w',RelH Z hp M w'→VR w' (ownZ Z hp M) M g v→Stp w (own hp M) w' (own hp M)→K (a.put o.dst v) w')→o.wp P a w K Q
theorem Fr.get_cons(d:Nat)(g:G)(fr:Fr):Fr.get ((d,g) :: fr)=fun t=>if d=t then some g else fr.get t:=by
 funext t
 simp only[Fr.get]
 by_cases h:d=t
 ·subst h;simp
 rw[if_neg h]
 cases hk:Nat.beq d t with
 | true=>exact absurd (nEq hk) h
 | false=>rfl
abbrev FF:=Nat→Option G
def FF.put(F:FF):Option Tmp→G→FF
 | some d,g=>fun t=>if d=t then some g else F t
 | none,_=>F
theorem FF.put_comm(F:FF){x y:Option Tmp}(g g':G)(h:∀ d,x=some d→y≠some d):(F.put x g).put y g'=(F.put y g').put x g:=by
 cases x with
 | none=>cases y<;>rfl
 | some d=>
  cases y with
  | none=>rfl
  | some e=>
   have hne:d≠e:=fun he=>h d rfl (he▸rfl)
   funext t
   simp only[FF.put]
   by_cases h1:e=t
   ·subst h1;simp[hne]
   simp[h1]
theorem FF.put_other(F:FF){x:Option Tmp}{g:G}{t:Nat}(h:∀ d,x=some d→d≠t):F.put x g t=F t:=by
 cases x with
 | none=>rfl
 | some d=>simp[FF.put,h d rfl]
def FF.guard(F:FF)(ops:Array Oper)(j:Nat)(want:Bool):Option Bool:=
 match ((ops[j]?).bind (·.dst)).bind F with
 | some (.d (.v (.bool b)))=>some (b==want)
 | some (.tup [])=>some false
 | _=>none
section
variable{P:Program}{N:Nat}{ops:Array Oper}{md:Region.Mode}{hp:List Ob}
def Yg(P:Program)(N:Nat)(hp:List Ob)(ops:Array Oper)(o:Oper)(F:FF)(g:G):Prop:=
 (∀ d,o.dst=some d→d<N)∧
 ((∃ j want,o.guard=some (j,want)∧F.guard ops j want=some false∧g=.tup [])∨
  ((o.guard=none∨∃ j want,o.guard=some (j,want)∧F.guard ops j want=some true)∧
  ∃ fr:Fr,(∀ t g',fr.get t=some g'→t∈o.looksAt ops∧F t=some g')∧Qt P N o fr hp g))
theorem Yg.of_same{o:Oper}{F F':FF}{g:G}(h:Yg P N hp ops o F g)(hs:∀ t,t∈o.looksAt ops→F' t=F t):Yg P N hp ops o F' g:=by
 have hg:∀ j want,o.guard=some (j,want)→F'.guard ops j want=F.guard ops j want:=fun j want hj=>by
  unfold FF.guard
  cases ht:(ops[j]?).bind (·.dst) with
  | none=>rfl
  | some t=>
   have:t∈o.looksAt ops:=by simp[Oper.looksAt,hj,ht]
   simp[hs t this]
 refine⟨h.1,?_⟩
 rcases h.2 with⟨j,want,h1,h2,h3⟩ | ⟨h1,fr,h2,h3⟩
 ·exact .inl ⟨j,want,h1,by rw[hg j want h1];exact h2,h3⟩
 refine .inr ⟨h1.imp id fun ⟨j,want,e1,e2⟩=>⟨j,want,e1,by rw[hg j want e1];exact e2⟩,fr,fun t g' ht=>?_,h3⟩
 obtain⟨e1,e2⟩:=h2 t g' ht
 exact⟨e1,(hs t e1).trans e2⟩
def gOp(P:Program)(N:Nat)(hp:List Ob)(ops:Array Oper)(i:Nat)(K:FF→Prop)(F:FF):Prop:=
 match ops[i]? with
 | none=>K F
 | some o=>∃ g,Yg P N hp ops o F g∧K (F.put o.dst g)
theorem Kbo{i:Nat}{K K':FF→Prop}{F:FF}(h:∀ F,K F→K' F)(hh:gOp P N hp ops i K F):gOp P N hp ops i K' F:=by
 unfold gOp at *
 split
 ·rename_i e;rw[e] at hh;exact h _ hh
 rename_i e;rw[e] at hh;obtain⟨g,h1,h2⟩:=hh;exact⟨g,h1,h _ h2⟩
def anyG(P:Program)(N:Nat)(hp:List Ob)(md:Region.Mode)(ops:Array Oper)(QF:FF→Prop):Nat→Array Bool→FF→Prop
 | 0,listed,F=>Region.ready md ops listed=[]∧QF F
 | fuel+1,listed,F=>(Region.ready md ops listed=[]→QF F)∧∀ i∈Region.ready md ops listed,gOp P N hp ops i (anyG P N hp md ops QF fuel (listed.setIfInBounds i true)) F
theorem Kbp{j:Nat}{oi oj:Oper}{gi:G}(hj:ops[j]?=some oj)(hap:oi.apart ops oj=true){K:FF→Prop}{F:FF}(hy:Yg P N hp ops oi F gi)(h:gOp P N hp ops j K (F.put oi.dst gi)) :
  gOp P N hp ops j (fun F'=>Yg P N hp ops oi F' gi∧K (F'.put oi.dst gi)) F:=by
 obtain⟨h1,h2,h3⟩:=Oper.apart_spec hap
 unfold gOp at *
 simp only[hj] at *
 obtain⟨g,hg,hK⟩:=h
 refine⟨g,hg.of_same fun t ht=>?_,hy.of_same fun t ht=>?_,?_⟩
 ·rw[FF.put_other];intro d hd e;subst e;exact h1 _ hd ht
 ·rw[FF.put_other];intro d hd e;subst e;exact h3 _ hd ht
 ·rw[←FF.put_comm F gi g h2];exact hK
theorem Kbq{QF:FF→Prop}{i:Nat}{oi:Oper}{gi:G}(hi:ops[i]?=some oi) :
  ∀ (fuel:Nat) (listed:Array Bool) (F:FF),
   (∀ j oj,ops[j]?=some oj→j≠i→listed.getD j true=false→(∀ e∈oj.after,Region.binds md e=true→e.on≠i)→oi.apart ops oj=true)→
   i∈Region.ready md ops listed→Yg P N hp ops oi F gi→
   anyG P N hp md ops QF fuel (listed.setIfInBounds i true) (F.put oi.dst gi)→anyG P N hp md ops QF (fuel+1) listed F:=by
 intro fuel
 induction fuel with
 | zero=>
  intro listed F _ hr hy H
  refine⟨fun h=>(by rw[h] at hr;cases hr),fun j hj=>?_⟩
  by_cases hji:j=i
  ·subst hji;unfold gOp;simp only[hi];exact⟨gi,hy,H⟩
  ·have:=ready_mono hj hji
   rw[H.1] at this
   cases this
 | succ fuel ih=>
  intro listed F hfree hr hy H
  refine⟨fun h=>(by rw[h] at hr;cases hr),fun j hj=>?_⟩
  by_cases hji:j=i
  ·subst hji;unfold gOp;simp only[hi];exact⟨gi,hy,H⟩
  ·have h1:=H.2 j (ready_mono hj hji)
   obtain⟨hjun,oj,hoj,hall⟩:=mem_ready.1 hj
   have hnot:∀ e∈oj.after,Region.binds md e=true→e.on≠i:=fun e he hb heq=>by
    have h1:=hall e he hb
    have h0:=(mem_ready.1 hr).1
    rw[heq] at h1
    rcases Nat.lt_or_ge i listed.size with h' | h'
    ·simp[h'] at h0 h1;rw[h0] at h1;cases h1
    ·simp[Array.getElem?_eq_none h'] at h1
   have h2:=Kbp hoj (hfree j oj hoj hji hjun hnot) hy h1
   have hfree':∀ k ok,ops[k]?=some ok→k≠i→(listed.setIfInBounds j true).getD k true=false→
     (∀ e∈ok.after,Region.binds md e=true→e.on≠i)→oi.apart ops ok=true:=fun k ok hk hki hun hno=>by
    refine hfree k ok hk hki ?_ hno
    by_cases hjk:j=k
    ·subst hjk;exact hjun
    ·rw[getD_set_ne true hjk] at hun;exact hun
   refine Kbo (fun F' h3=>ih (listed.setIfInBounds j true) F' hfree' (ready_mono hr (Ne.symm hji)) h3.1 ?_) h2
   rw[Array.setIfInBounds_comm _ _ hji]
   exact h3.2
def lexG(P:Program)(N:Nat)(hp:List Ob)(ops:Array Oper)(QF:FF→Prop):List Oper→FF→Prop
 | [],F=>QF F
 | o :: rest,F=>∃ g,Yg P N hp ops o F g∧lexG P N hp ops QF rest (F.put o.dst g)
theorem Kbr{QF:FF→Prop}:∀ (l:List Oper) (k:Nat) (listed:Array Bool) (F:FF),(∀ j,l[j]?=ops[k+j]?)→
  Region.lexFrom md ops l.length k listed=true→lexG P N hp ops QF l F→anyG P N hp md ops QF l.length listed F
 | [],_,_,_,_,hB,h=>⟨by simpa [Region.lexFrom] using hB,h⟩
 | o :: l,k,listed,F,hl,hB,h=>by
  have h0:ops[k]?=some o:=by simpa using (hl 0).symm
  simp only[List.length_cons,Region.lexFrom,Bool.and_eq_true] at hB
  obtain⟨⟨hr,hf⟩,hB'⟩:=hB
  obtain⟨g,hy,hK⟩:=h
  exact Kbq h0 l.length listed F (Region.free_spec h0 hf) (by simpa using hr) hy
   (Kbr l (k+1) _ _ (fun j=>by have:=hl (j+1);simpa [Nat.add_assoc,Nat.add_comm 1 j] using this) hB' hK)
structure RelF(Z:Env)(hp:List Ob)(M:Mp)(w:World)(F:FF)(a:Act)(N:Nat):Prop where
 heap:RelH Z hp M w
 fr:∀ t g,F t=some g→∃ v,a.tmps[t]?=some v∧VR w (ownZ Z hp M) M g v
 size:a.tmps.size=N
 defers:a.defers=[]
theorem Kbs{Z:Env}{M:Mp}{QF:FF→Prop}{w0:World}{Q:Exit→Act→World→Prop}(hQ:∀ F a w,QF F→RelF Z hp M w F a N→Stp w0 (own hp M) w (own hp M)→Q .normal a w) :
  ∀ (fuel:Nat) (listed:Array Bool) (F:FF) (a:Act) (w:World),RelF Z hp M w F a N→Stp w0 (own hp M) w (own hp M)→anyG P N hp md ops QF fuel listed F→wpAny P md ops Q fuel listed a w
 | 0,_,F,a,w,hr,hs,h=>⟨h.1,hQ F a w h.2 hr hs⟩
 | fuel+1,listed,F,a,w,hr,hs,h=>⟨fun h0=>hQ F a w (h.1 h0) hr hs,fun i hi=>by
  have hh:=h.2 i hi
  have ih:=Kbs hQ fuel (listed.setIfInBounds i true)
  unfold gOp at hh
  unfold wpOp
  split
  ·rename_i e;rw[e] at hh;exact ih F a w hr hs hh
  ·rename_i o e
   rw[e] at hh
   obtain⟨g,⟨hd,hy⟩,hK⟩:=hh
   have put:∀ v w',RelH Z hp M w'→VR w' (ownZ Z hp M) M g v→Stp w (own hp M) w' (own hp M)→RelF Z hp M w' (F.put o.dst g) (a.put o.dst v) N:=fun v w' h1 h2 h3=>by
    cases hdst:o.dst with
    | none=>exact⟨h1,fun t g' hg=>let ⟨v,e1,e2⟩:=hr.fr t g' hg;⟨v,e1,e2.step (Koi Z h3) (fun _ _=>rfl)⟩,hr.size,hr.defers⟩
    | some d=>
     refine⟨h1,fun t g' hg=>?_,by simp[Act.put,hr.size],hr.defers⟩
     simp only[FF.put] at hg
     by_cases hdt:d=t
     ·subst hdt
      simp at hg
      subst hg
      exact⟨v,by simp[Act.put,hr.size,hd d hdst],h2⟩
     ·rw[if_neg hdt] at hg
      obtain⟨v',e1,e2⟩:=hr.fr t g' hg
      exact⟨v',by simp only[Act.put];rw[Array.getElem?_setIfInBounds_ne hdt];exact e1,e2.step (Koi Z h3) (fun _ _=>rfl)⟩
   have gd:∀ j want b,F.guard ops j want=some b→(yielded ops a.tmps j==some want)=b:=fun j want b hb=>by
    unfold FF.guard at hb
    unfold yielded
    cases ht:(ops[j]?).bind (·.dst) with
    | none=>rw[ht] at hb;simp at hb
    | some t=>
     rw[ht] at hb
     simp only[Option.bind_some] at hb ⊢
     cases hg:F t with
     | none=>rw[hg] at hb;simp at hb
     | some g0=>
      obtain⟨v,hv,hvr⟩:=hr.fr t g0 hg
      rw[hg] at hb
      rw[hv]
      split at hb
      ·rename_i b' e
       cases e
       rw[vr_v hvr]
       simpa using hb
      ·rename_i e
       cases e
       cases hvr with
       | tup hl _=>simpa using hb
      ·cases hb
   rcases hy with⟨j,want,h1,h2,rfl⟩ | ⟨h1,fr,h2,h3⟩
   ·have hw:Region.wanted o (yielded ops a.tmps)=false:=by unfold Region.wanted;rw[h1];exact gd j want false h2
    rw[hw]
    exact ih _ _ _ (put _ w hr.heap (.tup rfl fun _ _ _ h _=>by simp at h) (.refl _ _)) hs hK
   ·have hw:Region.wanted o (yielded ops a.tmps)=true:=by
     unfold Region.wanted
     rcases h1 with h1 | ⟨j,want,e1,e2⟩
     ·rw[h1]
     ·rw[e1];exact gd j want true e2
    rw[hw]
    simp only[if_true]
    exact .inl (h3 Z w M a ⟨hr.heap,fun t g' hg=>hr.fr t g' (h2 t g' hg).2,hr.size,hr.defers⟩ _ _ fun v w' r1 r2 r3=>ih _ _ _ (put v w' r1 r2 r3) (hs.trans r3) hK)⟩
def GL(P:Program)(N:Nat)(hp:List Ob)(ops:Array Oper)(Q:Fr→Prop)(l:List Oper)(fr:Fr):Prop:=lexG P N hp ops (fun F=>∃ fr':Fr,fr'.get=F∧Q fr') l fr.get
theorem RelF.toRel{Z M w a}{fr:Fr}(h:RelF Z hp M w fr.get a N):Rel Z hp M w fr a N:=⟨h.heap,h.fr,h.size,h.defers⟩
theorem Kbt{F:Nat}{Q:GPost}{fr:Fr}{id:Nat}{l:List Oper}(hm:P.follows .mixedOrders=true)(hB:Region.lexB .any l.toArray=true)(h:GL P N hp l.toArray (fun fr'=>Q .normal fr' hp) l fr):EW P F N (.region id l.toArray true) Q fr hp:=by
 intro Z w0 O0 M0 w M a hs ha hr
 simp only[Region.lexB,Bool.and_eq_true] at hB
 have hdr:Stp w (own hp M) w.drew (own hp M):=.mk' (Nat.le_refl _) (fun _ _ _=>rfl) (fun _ _ h=>h) rfl rfl rfl rfl (fun g=>g) fun _ _ _=>rfl
 have hr':RelH Z hp M w.drew:=by
  refine⟨hr.heap.len,fun i o m h1 h2=>?_,hr.heap.apart,hr.heap.old,hr.heap.amb_stp hdr,hr.heap.inj,hr.heap.bags.mono rfl (Nat.le_refl _) (fun _ _ h=>h) (fun _ _ _ _ h=>h)⟩
  have:=hr.heap.obj i o m h1 h2
  exact this.move (k:=M.l.length) (Koi Z hdr) (fun _ _=>rfl) this.bel (fun _ _ _ _=>rfl) (fun _ _ _ _=>⟨rfl,fun _ _ _=>rfl⟩)
 refine wp_region_any hm (Kbs (Z:=Z) (M:=M) (w0:=w) (hp:=hp) (N:=N) (QF:=fun F=>∃ fr':Fr,fr'.get=F∧Q .normal fr' hp) ?_ _ _ fr.get a w.drew ⟨hr',fun t g hg=>let ⟨v,e1,e2⟩:=hr.fr t g hg;⟨v,e1,e2.step (Koi Z hdr) (fun _ _=>rfl)⟩,hr.size,hr.defers⟩ hdr ?_)
 ·rintro F a' w' ⟨fr',rfl,hq⟩ h1 h2
  exact⟨fr',hp,M,hq,h1.toRel,hs.trans h2,ha⟩
 have:=Kbr (P:=P) (N:=N) (hp:=hp) (md:=.any) l 0 (Array.replicate l.toArray.size false) fr.get (by simp) (by simpa using hB.2) h
 simpa using this
variable{rest:List Oper}{Q:Fr→Prop}{fr:Fr}{g:G}{d:Tmp}{op:Op}{ty:TypeId}{pos:String}{after:Array Edge}
theorem Kbu(h:Q fr):GL P N hp ops Q [] fr:=⟨fr,rfl,h⟩
def Fr.only(L:List Nat):Fr→Fr
 | []=>[]
 | (t,g) :: r=>bif L.any (Nat.beq t) then(t,g) :: Fr.only L r else Fr.only L r
theorem Fr.only_get{L:List Nat}:∀ {fr:Fr} {t:Nat} {g:G},(fr.only L).get t=some g→t∈L∧fr.get t=some g
 | [],_,_,h=>by cases h
 | (t0,g0) :: r,t,g,h=>by
  simp only[Fr.only] at h
  cases hL:L.any (Nat.beq t0) with
  | true=>
   rw[hL] at h
   simp only[cond_true,Fr.get] at h ⊢
   cases hk:Nat.beq t0 t with
   | true=>
    rw[hk] at h
    have:=nEq hk
    subst this
    obtain⟨x,hx,hx'⟩:=List.any_eq_true.1 hL
    have:=nEq hx'
    subst this
    exact⟨hx,h⟩
   | false=>rw[hk] at h;exact Fr.only_get h
  | false=>
   rw[hL] at h
   obtain⟨h1,h2⟩:=Fr.only_get h
   refine⟨h1,?_⟩
   simp only[Fr.get]
   cases hk:Nat.beq t0 t with
   | true=>
    have:=nEq hk
    subst this
    have:L.any (Nat.beq t0)=true:=List.any_eq_true.2 ⟨t0,h1,Nat.beq_refl _⟩
    rw[hL] at this
    cases this
   | false=>exact h2
theorem gl_q(hd:Nat.blt d N=true){gd:Option (Nat×Bool)}(hg:gd=none∨∃ j want,gd=some (j,want)∧fr.guard ops j want=some true)
  (hq:Qt P N ⟨some d,op,ty,pos,after,gd⟩ (fr.only (Oper.looksAt ops ⟨some d,op,ty,pos,after,gd⟩)) hp g) (k:GL P N hp ops Q rest ((d,g) :: fr)):GL P N hp ops Q (⟨some d,op,ty,pos,after,gd⟩ :: rest) fr:=by
 refine⟨g,⟨fun d' h=>by cases h;exact nblt.1 hd,.inr ⟨hg,_,fun t g' h=>Fr.only_get h,hq⟩⟩,?_⟩
 unfold GL at k
 rw[Fr.get_cons] at k
 exact k
theorem Kbv{j:Nat}{want:Bool}(hd:Nat.blt d N=true)(hg:fr.guard ops j want=some false)(k:GL P N hp ops Q rest ((d,.tup []) :: fr)):GL P N hp ops Q (⟨some d,op,ty,pos,after,some (j,want)⟩ :: rest) fr:=by
 refine⟨.tup [],⟨fun d' h=>by cases h;exact nblt.1 hd,.inl ⟨j,want,rfl,hg,rfl⟩⟩,?_⟩
 unfold GL at k
 rw[Fr.get_cons] at k
 exact k
theorem Kbw{l:List Oper}(t:Tmp){b:Bool}(hb:fr.get t=some (.d (.v (.bool b))))(h1:b=true→GL P N hp ops Q l ((t,.d (.v (.bool true))) :: fr))(h2:b=false→GL P N hp ops Q l ((t,.d (.v (.bool false))) :: fr)):GL P N hp ops Q l fr:=by
 have key:∀ c,b=c→Fr.get ((t,.d (.v (.bool c))) :: fr)=fr.get:=by
  rintro c rfl
  rw[Fr.get_cons]
  funext t'
  by_cases h:t=t'
  ·subst h;simp[hb]
  simp[h]
 unfold GL at *
 cases b
 ·rw[←key false rfl];exact h2 rfl
 rw[←key true rfl];exact h1 rfl
theorem Kbx{dst:Option Tmp}{j:Nat}{want:Bool}{t:Tmp}{b:Bool}(hj:(ops[j]?).bind (·.dst)=some t)(hb:fr.get t=some (.d (.v (.bool b))))
  (h1:b=true→GL P N hp ops Q (⟨dst,op,ty,pos,after,some (j,want)⟩ :: rest) ((t,.d (.v (.bool true))) :: fr)) (h2:b=false→GL P N hp ops Q (⟨dst,op,ty,pos,after,some (j,want)⟩ :: rest) ((t,.d (.v (.bool false))) :: fr)) :
  GL P N hp ops Q (⟨dst,op,ty,pos,after,some (j,want)⟩ :: rest) fr:=Kbw t hb h1 h2
theorem qt_p{o:Oper}(h:OpP P N o fr hp g):Qt P N o fr hp g:=fun Z w M a hr K Q hK=>by
 obtain⟨v,h1,h2⟩:=h Z w M a hr
 unfold Oper.wp
 rw[h1,Oper.upon_value]
 exact hK v w hr.heap h2 (.refl _ _)
variable{Γ:TypeId→Option TI}
theorem gl_x(hΓ:TOK P Γ)(h:pst Γ (fr.only (Oper.looksAt ops ⟨some d,op,ty,pos,after,none⟩)) hp op=some g)(hd:Nat.blt d N=true)(k:GL P N hp ops Q rest ((d,g) :: fr)) :
  GL P N hp ops Q (⟨some d,op,ty,pos,after,none⟩ :: rest) fr:=gl_q hd (.inl rfl) (qt_p (Kqa hΓ h)) k
theorem Kby(hΓ:TOK P Γ){j:Nat}{want:Bool}(hg:fr.guard ops j want=some true)(h:pst Γ (fr.only (Oper.looksAt ops ⟨some d,op,ty,pos,after,some (j,want)⟩)) hp op=some g)(hd:Nat.blt d N=true)(k:GL P N hp ops Q rest ((d,g) :: fr)) :
  GL P N hp ops Q (⟨some d,op,ty,pos,after,some (j,want)⟩ :: rest) fr:=gl_q hd (.inr ⟨j,want,rfl,hg⟩) (qt_p (Kqa hΓ h)) k
variable{fop:Operand}{args:Array Operand}{ts:Array TypeId}{f:FuncId}{g1 g2 gs:List G}{r:G}{gd:Option (Nat×Bool)}
theorem Kbz(hf:fr.ev fop=some (.fn (.func f) g1 g2))(ha:args.toList.mapM fr.ev=some gs)(hcl:Callable P f)(hc:Pure P f (g1++gs++g2) r)(hb:G.belAll 0 (g1++gs++g2)=true)(hb':r.bel 0=true) :
  Qt P N ⟨some d,.call ⟨.value fop,args,ts⟩,ty,pos,after,gd⟩ fr hp r:=fun Z w M a hr K Q hK=>by
 obtain⟨vs,hrun,l,rr⟩:=Kqg (ts:=ts) (ty:=ty) (pos:=pos) (after:=after) (c:=hp) hr hf ha hcl (some d)
 have hrun':(execOp a.eval ⟨some d,.call ⟨.value fop,args,ts⟩,ty,pos,after,gd⟩).run P w=.ok (.enter f vs) w:=hrun
 unfold Oper.wp
 rw[hrun',Oper.upon_enter]
 refine((hc.ec hb hb' (R:=fun g hp'=>g=r∧hp'=hp) ⟨rfl,rfl⟩) Z w M vs hr.heap l rr).mono ?_
 rintro e w' ⟨v,g,hp',M',rfl,⟨rfl,rfl⟩,h1,h2,h3,h4⟩
 have hMl:M'.l=M.l:=by
  apply List.ext_getElem?
  intro i
  by_cases hi:i<hp'.length
  ·exact h4.eq i hi
  ·have e1:M'.l[i]?=none:=List.getElem?_eq_none (by rw[h1.len];omega)
   have e2:M.l[i]?=none:=List.getElem?_eq_none (by rw[hr.heap.len];omega)
   rw[e1,e2]
 have hMM:M'=M:=by
  have:=hr.heap.tags_eq h1 h3
  cases M;cases M';simp_all
 subst hMM
 exact hK v w' h1 h2 h3
theorem Kca(hd:Nat.blt d N=true)(hf:(fr.only (Oper.looksAt ops ⟨some d,.call ⟨.value fop,args,ts⟩,ty,pos,after,none⟩)).ev fop=some (.fn (.func f) g1 g2))
  (ha:args.toList.mapM (fr.only (Oper.looksAt ops ⟨some d,.call ⟨.value fop,args,ts⟩,ty,pos,after,none⟩)).ev=some gs) (hcl:Callable P f) (hc:Pure P f (g1++gs++g2) r) (hb:G.belAll 0 (g1++gs++g2)=true) (hb':r.bel 0=true)
  (k:GL P N hp ops Q rest ((d,r) :: fr)):GL P N hp ops Q (⟨some d,.call ⟨.value fop,args,ts⟩,ty,pos,after,none⟩ :: rest) fr:=gl_q hd (.inl rfl) (Kbz hf ha hcl hc hb hb') k
theorem Kcb{j:Nat}{want:Bool}(hg:fr.guard ops j want=some true)(hd:Nat.blt d N=true)(hf:(fr.only (Oper.looksAt ops ⟨some d,.call ⟨.value fop,args,ts⟩,ty,pos,after,some (j,want)⟩)).ev fop=some (.fn (.func f) g1 g2))
  (ha:args.toList.mapM (fr.only (Oper.looksAt ops ⟨some d,.call ⟨.value fop,args,ts⟩,ty,pos,after,some (j,want)⟩)).ev=some gs) (hcl:Callable P f) (hc:Pure P f (g1++gs++g2) r) (hb:G.belAll 0 (g1++gs++g2)=true) (hb':r.bel 0=true)
  (k:GL P N hp ops Q rest ((d,r) :: fr)):GL P N hp ops Q (⟨some d,.call ⟨.value fop,args,ts⟩,ty,pos,after,some (j,want)⟩ :: rest) fr:=gl_q hd (.inr ⟨j,want,rfl,hg⟩) (Kbz hf ha hcl hc hb hb') k
theorem Kcc(hΓ:TOK P Γ){t e:TypeId}{len:Nat}{i1 i2:TI}{parts:Array (Nat×Operand)}{pg:List (Nat×G)}{gs:List G}{ds:List D}(h1:Γ t=some i1)(h1':i1.desc=.slice e)(h2:Γ e=some i2)
  (hz:(i2.zero.cells.toList.all (·.oneCell'))=true) (hz':Nat.blt 0 i2.zero.cells.size=true) (hlen:Nat.ble (len * i2.size) 16777216=true) (hlen':Nat.ble len 16777216=true) (hp':evParts fr parts.toList=some pg) (hf:fillG (fun i=>some (i * i2.size,i2.size)) (zerosG i2 len) pg=some gs) (hds:toDs gs=some ds) :
  Qt P N ⟨some d,.buildSlice t len parts,ty,pos,after,gd⟩ fr hp (.d (.ro len ds)):=fun Z w M a hr K Q hK=>by
 obtain⟨cs,r1,r2,r3,r4⟩:=Kbj hΓ hr h1 h1' h2 hz hz' hlen hp' hf
 obtain⟨f1,f2,f3⟩:=Kbh hr.heap (.cells cs e)
 have hgs:=Kbf hds
 have hlen'':len≤maxLen:=by have:=nBe hlen';simp only[maxLen];omega
 have hb:=heap_alloc_new w (.cells cs e)
 have hrd:∀ j dd,ds[j]?=some dd→∃ v,cs[j]?=some v∧VD w (ownZ Z hp M) dd v:=fun j dd hj=>by
  obtain⟨v,e1,e2,e3⟩:=r4 j (.d dd) (by rw[hgs,gMp,hj];rfl)
  cases e3 with
  | d h=>exact⟨v,e1,h⟩
 unfold Oper.wp
 have:(execOp a.eval ⟨some d,.buildSlice t len parts,ty,pos,after,gd⟩).run P w=.ok (.value (.slice (some ⟨w.heap.size,0,none⟩) len len)) (w.alloc (.cells cs e)):=by simp[execOp,r1]
 rw[this,Oper.upon_value]
 refine hK _ _ f1 (.d (.ro len ds w.heap.size 0 len (fun j=>cs.getD j undef) (by simp) (fun _ _ h=>absurd h f3) (Nat.le_refl _) hlen'' (fun j dd hj=>?_) (fun j dd hj=>?_))) f2
 ·obtain⟨v,e1,_⟩:=hrd j dd hj
  rw[Nat.zero_add,cell_of_row _ _ j cs _ _ hb]
  simp[e1]
 ·obtain⟨v,e1,e2⟩:=hrd j dd hj
  simpa [e1] using e2.step (Koi Z f2)
end
end Go.Gk
namespace Go.Gk
def look:List (Nat×TI)→TypeId→Option TI
 | [],_=>none
 | (k,i) :: r,t=>bif Nat.beq k t then some i else look r t
def AllOK(P:Program):List (Nat×TI)→Prop
 | []=>True
 | (t,i) :: r=>(P.underlying t=some i.desc∧∃ inf,P.types[t]?=some inf∧inf.size=i.size∧inf.bytes=i.bytes∧inf.zero=some i.zero)∧AllOK P r
theorem Kcd{P:Program}:∀ (l:List (Nat×TI)),AllOK P l→TOK P (look l)
 | [],_,t,i,h=>by cases h
 | (k,i0) :: r,ha,t,i,h=>by
  simp only[look] at h
  cases hk:Nat.beq k t with
  | true=>
   rw[hk] at h
   have:=nEq hk
   subst this
   cases h
   obtain⟨h1,inf,h2,h3⟩:=ha.1
   exact⟨h1,inf,by unfold Tables.info?;rw[if_pos (aEs.1 h2).1];exact h2,h3⟩
  | false=>rw[hk] at h;exact Kcd r ha.2 t i h
section
variable{P:Program}{Γ:TypeId→Option TI}{F N:Nat}{fr:Fr}{hp:List Ob}{g:G}{Q:GPost}{ops:Array Oper}{rest:List Oper}
variable{d:Tmp}{ty:TypeId}{pos:String}{after:Array Edge}{fn:Func}
def resG(Γ:TypeId→Option TI)(fr:Fr)(hp:List Ob):ResultVar→Option G
 | .tmp t=>fr.get t
 | .cell a t=>match fr.get a,Γ t with
  | some (.ptr id off),some i=>match hp[id]? with
   | some (.box _ gs)=>loadG i gs off
   | _=>none
  | _,_=>none
def resAll(Γ:TypeId→Option TI)(fr:Fr)(hp:List Ob):List ResultVar→Option (List G)
 | []=>some []
 | r :: l=>match resG Γ fr hp r,resAll Γ fr hp l with
  | some g,some gs=>some (g :: gs)
  | _,_=>none
def retG:List G→G
 | [g]=>g
 | gs=>.tup gs
def resRun(tmps:Array Value):ResultVar→Sem Value
 | .tmp t=>pure (tmps.getD t undef)
 | .cell a t=>do loadVar t (←asAddr (tmps.getD a undef))
theorem Kce(hΓ:TOK P Γ){Z:Env}{M:Mp}{w:World}{a:Act}(hr:Rel Z hp M w fr a N):∀ (l:List ResultVar) {gs:List G},resAll Γ fr hp l=some gs→
  ∃ vs:List Value,(l.mapM (resRun a.tmps)).run P w=.ok vs w∧vs.length=gs.length∧∀ (j:Nat) (g:G) (v:Value),gs[j]?=some g→vs[j]?=some v→VR w (ownZ Z hp M) M g v
 | [],gs,h=>by simp[resAll] at h;subst h;exact⟨[],rfl,rfl,fun j g v h=>by simp at h⟩
 | r :: l,gs,h=>by
  simp only[resAll] at h
  cases h1:resG Γ fr hp r with
  | none=>rw[h1] at h;simp at h
  | some g0=>
   cases h2:resAll Γ fr hp l with
   | none=>rw[h1,h2] at h;simp at h
   | some gs0=>
    rw[h1,h2] at h
    cases h
    obtain⟨vs,r1,r2,r3⟩:=Kce hΓ hr l h2
    have key:∃ v,(resRun a.tmps r).run P w=.ok v w∧VR w (ownZ Z hp M) M g0 v:=by
     cases r with
     | tmp t=>
      obtain⟨v,hv,hvr⟩:=hr.fr t g0 h1
      exact⟨v,by simp[resRun,hv],hvr⟩
     | cell x t=>
      simp only[resG] at h1
      split at h1
      ·rename_i id off i hx hi
       obtain⟨v,hv,hvr⟩:=hr.fr x _ hx
       cases hvr with
       | ptr hM=>
        rename_i b c
        split at h1
        ·rename_i tb gs' ho
         obtain⟨u,e1,e2⟩:=Kpu (hp:=hp) hΓ hi rfl (hr.heap.obj id _ _ ho hM) (.inl ⟨_,rfl⟩) h1
         exact⟨u,by simp[resRun,hv,asAddr,e1],e2⟩
        ·cases h1
      ·cases h1
    obtain⟨v,k1,k2⟩:=key
    refine⟨v :: vs,by rw[List.mapM_cons];simp[k1,r1],by simp[r2],fun j g v' hg hv'=>?_⟩
    cases j with
    | zero=>simp at hg hv';subst hg;subst hv';exact k2
    | succ j=>exact r3 j g v' (by simpa using hg) (by simpa using hv')
theorem Kcf(hΓ:TOK P Γ){gs:List G}(h:resAll Γ fr hp fn.results.toList=some gs)(hg:g=retG gs):Res P fn fr hp g:=by
 intro Z M w a N hr
 obtain⟨vs,r1,r2,r3⟩:=Kce hΓ hr _ h
 have hrun:(results fn a.tmps).run P w=.ok (if h:vs.toArray.size=1 then vs.toArray[0] else .tuple vs.toArray) w:=by
  have e:results fn a.tmps=(fn.results.mapM (resRun a.tmps) >>= fun vs=>pure (if h:vs.size=1 then vs[0] else .tuple vs)):=by
   unfold results
   congr 1
  rw[e,Array.mapM_eq_mapM_toList]
  simp[r1]
 refine⟨_,hrun,?_⟩
 subst hg
 match gs,r2,r3 with
 | [g],r2,r3=>
  match vs,r2,r3 with
  | [v],_,r3=>exact r3 0 g v rfl rfl
 | [],r2,r3=>
  match vs,r2 with
  | [],_=>exact .tup rfl fun j g v h=>by simp at h
 | g1 :: g2 :: gs,r2,r3=>
  have:vs.toArray.size≠1:=by simp at r2 ⊢;omega
  rw[dif_neg this]
  exact .tup (by simpa using r2) fun j g v hg hv=>r3 j g v hg (by simpa using hv)
end
end Go.Gk
namespace Go.Gk
section
variable{P:Program}{Γ:TypeId→Option TI}{F N:Nat}{fr:Fr}{hp:List Ob}{g:G}{Q:GPost}{ops:Array Oper}{rest:List Oper}
variable{d:Tmp}{ty:TypeId}{pos:String}{after:Array Edge}{gd:Option (Nat×Bool)}
def Fr.bound(fr:Fr):Option Operand→Int→Option Int
 | none,k=>some k
 | some x,_=>match fr.ev x with
  | some (.d (.v (.int _ n)))=>some n
  | _=>none
theorem Kcg{w:World}{a:Act}{Z M}(hr:Rel Z hp M w fr a N){lo hi:Option Operand}{b:Bool}{l h len cap:Nat}(hlo:fr.bound lo 0=some (l:Int))(hhi:fr.bound hi len=some (h:Int))(h1:l≤h)(h2:h≤cap) :
  (Instr.sliceBounds b len cap (lo.map a.eval) (hi.map a.eval) none).run P w=.ok (l,h,cap) w:=by
 have b1:∀ (x:Operand) (n:Int) (y:Nat) (k:Nat) (code:BoundsCode),fr.bound (some x) n=some (k:Int)→k≤y→(Instr.sliceBound (a.eval x) y code).run P w=.ok k w:=fun x n y k code hx hk=>by
  simp only[Fr.bound] at hx
  split at hx
  ·rename_i kd n' e
   cases hx
   rw[hr.ev_v e,run_sliceBound w kd (k:Int) y code (by omega) (by omega)]
   simp
  ·cases hx
 cases lo with
 | none=>
  simp only[Fr.bound] at hlo
  have:l=0:=by have:=oSi hlo;omega
  subst this
  cases hi with
  | none=>
   simp only[Fr.bound] at hhi
   have:len=h:=by have:=oSi hhi;omega
   subst this
   simp[Instr.sliceBounds]
  | some y=>simp[Instr.sliceBounds,b1 y _ _ _ _ hhi h2]
 | some x=>
  cases hi with
  | none=>
   simp only[Fr.bound] at hhi
   have:len=h:=by have:=oSi hhi;omega
   subst this
   simp[Instr.sliceBounds,b1 x _ _ _ _ hlo h1]
  | some y=>simp[Instr.sliceBounds,b1 y _ _ _ _ hhi h2,b1 x _ _ _ _ hlo h1]
theorem Kch(l:List UInt8)(i j:Nat):(⟨l.toArray⟩:ByteArray).extract i j=⟨((l.take j).drop i).toArray⟩:=by
 apply ByteArray.ext
 rw[ByteArray.data_extract]
 apply Array.ext'
 simp[List.drop_take]
theorem Kci(hΓ:TOK P Γ){t:TypeId}{i1:TI}{x:Operand}{lo hi:Option Operand}{s:List UInt8}(l h:Nat)(h1:Γ t=some i1)(h1':i1.desc=.string)(hx:fr.ev x=some (S s))(hlo:fr.bound lo 0=some (l:Int))(hhi:fr.bound hi s.length=some (h:Int))(hl:l≤h)(hh:h≤s.length) :
  OpP P N ⟨some d,.slice t x lo hi none,ty,pos,after,gd⟩ fr hp (S ((s.take h).drop l)):=fun Z w M a hr=>by
 obtain⟨u1,_⟩:=hΓ t _ h1
 rw[h1'] at u1
 have hsz:(⟨s.toArray⟩:ByteArray).size=s.length:=by show s.toArray.size=_;simp
 have hb:=Kcg (P:=P) hr (b:=false) hlo hhi hl hh
 refine⟨_,?_,.d (.v _ rfl)⟩
 simp only[execOp,hr.ev_v hx,Option.map_none]
 simp only[Instr.sliceAt,run_underlying u1,Sem.run_bind,Result.andThen_ok]
 simp only[Instr.slice,run_underlying u1,Sem.run_bind,Result.andThen_ok,hsz]
 simp[hb,Kch]
theorem Kcj(hΓ:TOK P Γ){t e:TypeId}{i1 i2:TI}{x:Operand}{lo hi:Option Operand}{n:Nat}{xs:List D}(l h:Nat)(h1:Γ t=some i1)(h1':i1.desc=.slice e)(h2:Γ e=some i2)(hx:fr.ev x=some (.d (.ro n xs)))(hlo:fr.bound lo 0=some (l:Int))(hhi:fr.bound hi n=some (h:Int))(hl:l≤h)(hh:h≤n)(hn:xs.length=n * i2.size) :
  OpP P N ⟨some d,.slice t x lo hi none,ty,pos,after,gd⟩ fr hp (.d (.ro (h - l) ((xs.take (h * i2.size)).drop (l * i2.size)))):=fun Z w M a hr=>by
 obtain⟨u1,_⟩:=hΓ t _ h1
 rw[h1'] at u1
 have hs:=run_size' (P:=P) (w:=w) hΓ h2
 have hvx:=hr.ev hx
 simp only[execOp,Option.map_none]
 generalize a.eval x=vx at hvx
 cases hvx with
 | d hd=>
  cases hd with
  | nil=>
   have hl0:l=0:=by omega
   have hh0:h=0:=by omega
   subst hl0;subst hh0
   have hb:=Kcg (P:=P) (w:=w) hr (b:=true) (len:=0) (cap:=0) hlo hhi (Nat.le_refl _) (Nat.le_refl _)
   refine⟨.slice none 0 0,?_,by simpa using VR.d VD.nil⟩
   simp[Instr.sliceAt,Instr.slice,run_underlying u1,hb,hs]
  | ro _ _ b off cap vs hb0 hO hnc hm hc hv=>
   have hb:=Kcg (P:=P) (w:=w) hr (b:=true) (len:=n) (cap:=cap) hlo hhi hl (by omega)
   have hget:∀ (j:Nat) (dd:D),((xs.take (h * i2.size)).drop (l * i2.size))[j]?=some dd→xs[l * i2.size+j]?=some dd:=fun j dd hj=>by
    rw[List.getElem?_drop,List.getElem?_take] at hj
    split at hj
    ·exact hj
    ·cases hj
   by_cases hcl:cap=l
   ·have hnil:(xs.take (h * i2.size)).drop (l * i2.size)=[]:=by
     have:h=l:=by omega
     subst this
     apply List.eq_nil_of_length_eq_zero
     simp
    rw[hnil]
    subst hcl
    refine⟨.slice (some ⟨b,off,none⟩) (h - cap) (cap - cap),by simp[Instr.sliceAt,Instr.slice,run_underlying u1,hb,hs],.d ?_⟩
    exact .ro (h - cap) [] b off (cap - cap) vs hb0 (fun j hj=>by simp at hj) (by omega) (by omega) (fun j d hj=>by simp at hj) (fun j d hj=>by simp at hj)
   ·refine⟨.slice (some ⟨b,off+l * i2.size,none⟩) (h - l) (cap - l),by simp[Instr.sliceAt,Instr.slice,run_underlying u1,hb,hs,hcl,Addr.add_lit],.d ?_⟩
    refine .ro (h - l) _ b (off+l * i2.size) (cap - l) (fun j=>vs (l * i2.size+j)) hb0 (fun j hj=>by rw[Nat.add_assoc];exact hO _ (gEs.1 (hget j _ (gGe hj))).1) (by omega) (by omega) (fun j dd hj=>?_) (fun j dd hj=>hv _ _ (hget j dd hj))
    rw[Nat.add_assoc]
    exact hc _ _ (hget j dd hj)
theorem Kck(hΓ:TOK P Γ){t e:TypeId}{i1 i2:TI}{x:Operand}{lo hi:Option Operand}{n id:Nat}(h:Nat)(h1:Γ t=some i1)(h1':i1.desc=.slice e)(h2:Γ e=some i2)(hx:fr.ev x=some (.sl id n))(hlo:fr.bound lo 0=some (0:Int))(hhi:fr.bound hi n=some (h:Int))(hh:h≤n)
  (hd:Nat.blt d N=true) (k:EO P F N ops rest Q ((d,.sl id h) :: fr) hp):EO P F N ops (⟨some d,.slice t x lo hi none,ty,pos,after,none⟩ :: rest) Q fr hp:=by
 refine eo_p hd (fun Z w M a hr=>?_) k
 obtain⟨u1,_⟩:=hΓ t _ h1
 rw[h1'] at u1
 have hs:=run_size' (P:=P) (w:=w) hΓ h2
 have hvx:=hr.ev hx
 simp only[execOp,Option.map_none]
 generalize a.eval x=vx at hvx
 cases hvx with
 | slnil hM=>
  have hh0:h=0:=by omega
  subst hh0
  have hb:=Kcg (P:=P) (w:=w) hr (b:=true) (l:=0) (len:=0) (cap:=0) hlo hhi (Nat.le_refl _) (Nat.le_refl _)
  exact⟨.slice none 0 0,by simp[Instr.sliceAt,Instr.slice,run_underlying u1,hb,hs],.slnil hM⟩
 | sl hM hn hm=>
  rename_i b c
  have hb:=Kcg (P:=P) (w:=w) hr (b:=true) (l:=0) (len:=n) (cap:=c) hlo hhi (Nat.zero_le _) (by omega)
  refine⟨.slice (some ⟨b,0,none⟩) h c,?_,.sl hM (by omega) hm⟩
  by_cases hc:c=0
  ·subst hc;simp[Instr.sliceAt,Instr.slice,run_underlying u1,hb,hs]
  ·simp[Instr.sliceAt,Instr.slice,run_underlying u1,hb,hs,hc,Addr.add_lit]
def Ext(P:Program)(f:FuncId)(vs:List Value)(r:Value):Prop:=∀ w,(callFunc f vs.toArray).run P w=.ok (.value r) w
theorem Kcl {f:FuncId} {fn:Func} {e:Array Value→Sem Value} {vs:List Value} {r:Value} (hf:P.funcs[f]?=some fn) (hn:(fn.name== "runtime.NumGoroutine")=false) (hb:fn.body.isNone=true) (hx:Extern.findNext fn=none) (he:Extern.find fn=some e) (hr:∀ w,(e vs.toArray).run P w=.ok r w):Ext P f vs r:=fun w=>by
 have hn':fn.name≠ "runtime.NumGoroutine":=beq_eq_false_iff_ne.1 hn
 have hb':fn.body=none:=by cases h:fn.body with
  | none=>rfl
  | some c=>rw[h] at hb;cases hb
 simp[callFunc,hf,hn',hb',hx,he,hr]
def plainV:List G→Option (List Value)
 | []=>some []
 | .d (.v x) :: r=>match plainV r with
  | some l=>some (x :: l)
  | none=>none
 | _=>none
theorem Kcm{Z:Env}{M:Mp}{w:World}{a:Act}(hr:Rel Z hp M w fr a N):∀ (l:List Operand) {gs:List G} {vs:List Value},l.mapM fr.ev=some gs→plainV gs=some vs→l.map a.eval=vs
 | [],gs,vs,h,h'=>by simp at h;subst h;simp[plainV] at h';subst h';rfl
 | x :: l,gs,vs,h,h'=>by
  rw[List.mapM_cons] at h
  cases hx:fr.ev x with
  | none=>rw[hx] at h;simp at h
  | some g0=>
   cases hl:l.mapM fr.ev with
   | none=>rw[hx,hl] at h;simp at h
   | some gs0=>
    rw[hx,hl] at h
    simp at h
    subst h
    cases g0 with
    | d x0=>
     cases x0 with
     | v c=>
      simp only[plainV] at h'
      cases hp0:plainV gs0 with
      | none=>rw[hp0] at h';cases h'
      | some vs0=>
       rw[hp0] at h'
       cases h'
       simp[hr.ev_v hx,Kcm hr l hl hp0]
     | ro _ _=>simp[plainV] at h'
     | rf _ _=>simp[plainV] at h'
     | rt _ _ _ _ _=>simp[plainV] at h'
     | hd _ _=>simp[plainV] at h'
     | rv _ _ _ _=>simp[plainV] at h'
    | _=>simp[plainV] at h'
end
end Go.Gk
namespace Go.Gk
def zerosD(i:TI)(n:Nat):List D:=(List.replicate n (i.zero.cells.toList.map D.v)).flatten
section
variable{P:Program}{Γ:TypeId→Option TI}{F N:Nat}{fr:Fr}{hp:List Ob}{g:G}{Q:GPost}{ops:Array Oper}{rest:List Oper}
variable{d:Tmp}{ty:TypeId}{pos:String}{after:Array Edge}{gd:Option (Nat×Bool)}
theorem DataR.setAt{w:World}{O:Ow}{cs vs:Array Value}{ds new:List D}{off:Nat}(hc:DataR w O cs ds)(hn:DataR w O vs new)(hl:vs.size=new.length)(hf:off+new.length≤ds.length)(hf':ds.length≤cs.size) :
  DataR w O (Gk.setAt cs.toList off vs.toList).toArray (Gk.setAt ds off new):=by
 intro j g hj
 rw[Kqp hf] at hj
 have e:(Gk.setAt cs.toList off vs.toList).toArray[j]?=if off≤j∧j<off+new.length then vs[j - off]? else cs[j]?:=by
  rw[List.getElem?_toArray,Kqp (by simp;omega)]
  simp[hl]
 rw[e]
 by_cases h1:off≤j∧j<off+new.length
 ·rw[if_pos h1] at hj ⊢;exact hn _ g hj
 ·rw[if_neg h1] at hj ⊢;exact hc j g hj
theorem Kcn(hΓ:TOK P Γ){t tb:TypeId}{x y:Operand}{i:TI}{id off sz n:Nat}{ds nd:List D}{new:List G}(hi:Γ t=some i)(hx:fr.ev x=some (.ptr id off))(ho:hp[id]?=some (.row tb sz n ds))(hy:fr.ev y=some g)(hg:cellsG g=some new)(hnd:toDs new=some nd)
  (hsz:Nat.beq new.length i.size=true) (hfit:off+nd.length≤ds.length) (hF:F≤hp.length)
  (k:EO P F N ops rest Q fr (hp.set id (.row tb sz n (setAt ds off nd)))):EO P F N ops (⟨none,.store t x y,ty,pos,after,none⟩ :: rest) Q fr hp:=by
 refine eo_u hF (fun Z w M a hr=>?_) k
 have hvx:=hr.ev hx
 have hnew:=Kbf hnd
 have h1:new.all G.one=true:=by rw[hnew];simp[G.one]
 have hvy:=Kql (hr.ev hy) hg h1
 have hnl:nd.length=new.length:=by rw[hnew];simp
 have hvd:DataR w (ownZ Z hp M) (a.eval y).cells nd:=fun j dd hj=>by
  obtain⟨v,e1,e2,e3⟩:=hvy.2 j (.d dd) (by rw[hnew,gMp,hj];rfl)
  cases e3 with
  | d h=>exact⟨v,e1,h⟩
 simp only[execOp]
 generalize a.eval x=vx at hvx
 cases hvx with
 | ptr hM=>
  rename_i b c
  obtain⟨hdl,cs,hb,hcl,hnc,hcm,hcr⟩:=hr.heap.obj id _ _ ho hM
  have hle:ds.length≤cs.size:=by rw[hdl,hcl];exact Nat.mul_le_mul_right _ hnc
  have hvl:(a.eval y).cells.toList.length=nd.length:=by simp[hvy.1,hnl]
  obtain⟨w',r1,r2,r3⟩:=Kqr (P:=P) (o':=.row tb sz n (setAt ds off nd)) hr.heap ho rfl hM hb (off:=off) (vs:=(a.eval y).cells.toList) (by rw[hvl];omega) (fun v hv=>by
    obtain⟨j,hj⟩:=List.getElem?_of_mem hv
    have hlt:j<new.length:=by rw[←hnl,←hvl];exact(gEs.1 hj).1
    obtain⟨u,e1,e2,_⟩:=hvy.2 j _ (gGe hlt)
    have:some v=some u:=by rw[←e1,←hj];simp
    cases this;exact e2)
   (fun w' hst hh=>⟨by rw[Kqq hfit];exact hdl,_,hh,by simp[Kqq (show off+(a.eval y).cells.toList.length≤cs.toList.length by rw[hvl];simp;omega),hcl],hnc,hcm,DataR.setAt
    (fun j g hj=>let ⟨v,e1,e2⟩:=hcr j g hj;⟨v,e1,e2.step hst⟩) (fun j g hj=>let ⟨v,e1,e2⟩:=hvd j g hj;⟨v,e1,e2.step hst⟩) (by rw[hvy.1,hnl]) hfit hle⟩) rfl
  refine⟨w',M,?_,r2,r3,⟨by rw[hr.heap.len];exact Nat.le_refl _,fun _ _=>rfl⟩⟩
  have hs:=run_size' (P:=P) (w:=w) hΓ hi
  have:(a.eval y).cells.size=i.size:=by rw[hvy.1];exact nEq hsz
  simp[Instr.storeAt,Instr.sureAddr,storeVar,hs,this,r1]
def ER(P:Program)(F N:Nat)(c:Code)(Q:GPost):Nat→Fr→List Ob→Prop
 | 0,_,_=>False
 | n+1,fr,hp=>EW P F N c (GThen (ER P F N c Q n) Q) fr hp
variable{QF:Fr→Prop}
theorem Kco(hΓ:TOK P Γ){t e:TypeId}{i1 i2:TI}{x y:Operand}{n:Nat}{xs ys:List D}{kd:IntKind}{k:Int}(i:Nat)(h1:Γ t=some i1)(h1':i1.desc=.slice e)(h2:Γ e=some i2)(hx:fr.ev x=some (.d (.ro n xs)))
  (hy:fr.ev y=some (.d (.v (.int kd k)))) (hk:k=(i:Int)) (hi:i<n) (hys:∀ j d,ys[j]?=some d→xs[i * i2.size+j]?=some d) :
  OpP P N ⟨some d,.indexAddr t x y,ty,pos,after,gd⟩ fr hp (.rp ys):=fun Z w M a hr=>by
 obtain⟨u1,_⟩:=hΓ t _ h1
 rw[h1'] at u1
 have hs:=run_size' (P:=P) (w:=w) hΓ h2
 have hvx:=hr.ev hx
 simp only[execOp,hr.ev_v hy]
 generalize a.eval x=vx at hvx
 subst hk
 cases hvx with
 | d hd=>
  cases hd with
  | nil=>omega
  | ro _ _ b off cap vs hb hO hn hm hc hv=>
   refine⟨.pointer (some ⟨b,off+i * i2.size,none⟩),?_,.rp (fun j=>vs (i * i2.size+j)) hb (fun j hj=>by rw[Nat.add_assoc];exact hO _ (gEs.1 (hys j _ (gGe hj))).1) (fun j d hd=>?_) (fun j d hd=>hv _ _ (hys j d hd))⟩
   ·have:(0:Int)≤(i:Int)∧(i:Int)<(n:Int):=by omega
    simp[Instr.indexAt,asIntOf,run_underlying u1,hs,this,Addr.add_lit,hi]
   ·rw[Nat.add_assoc]
    exact hc _ _ (hys j d hd)
theorem Kcp{α:Type}{enc:α→List D}{sz:Nat}:∀ {l:List α} {i:Nat} {x:α},(∀ y∈l,(enc y).length=sz)→l[i]?=some x→∀ j d,(enc x)[j]?=some d→(l.flatMap enc)[i * sz+j]?=some d
 | [],i,x,_,h,_,_,_=>by simp at h
 | y :: l,0,x,hs,h,j,d,hd=>by
  simp at h
  subst h
  rw[List.flatMap_cons,Nat.zero_mul,Nat.zero_add,gAl (gEs.1 hd).1]
  exact hd
 | y :: l,i+1,x,hs,h,j,d,hd=>by
  rw[List.flatMap_cons,gAr (by rw[hs y mCs,Nat.add_mul];omega),hs y mCs]
  have e:(i+1) * sz+j - sz=i * sz+j:=by rw[Nat.add_mul];omega
  rw[e]
  exact Kcp (fun z hz=>hs z (mCo _ hz)) (by simpa using h) j d hd
theorem Kcq{α:Type}{enc:α→List D}{sz:Nat}:∀ {l:List α},(∀ y∈l,(enc y).length=sz)→(l.flatMap enc).length=l.length * sz
 | [],_=>by simp
 | y :: l,hs=>by
  rw[List.flatMap_cons,List.length_append,hs y mCs,Kcq fun z hz=>hs z (mCo _ hz)]
  simp[Nat.add_mul];omega
end
abbrev Sl{α:Type}(enc:α→List D)(l:List α):D:=.ro l.length (l.flatMap enc)
end Go.Gk
