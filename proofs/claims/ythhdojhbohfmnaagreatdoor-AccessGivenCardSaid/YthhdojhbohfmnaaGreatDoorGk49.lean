import Derived.Test.YthhdojhbohfmnaaGreatDoorGk39
import Derived.WideKeyRuns
set_option linter.all false
namespace Go.Gk
open Go.Instr
variable{P:Program}{Γ:TypeId→Option TI}{F N:Nat}{Q:GPost}{fr fr':Fr}{hp hp':List Ob}{ks:List Kt}
variable{α:Type}{enc:α→List D}{ops:Array Oper}{rest:List Oper}{g:G}
variable{d:Tmp}{op:Op}{ty:TypeId}{pos:String}{after:Array Edge}{gd':Option (Nat×Bool)}
end Go.Gk
namespace Go.Gk
abbrev Tl(α:Type):Type:=Nat×List α
def Slt{α:Type}(te:TypeId)(sz:Nat)(enc:α→List D)(s:Tl α):D:=.rt te sz s.1 s.2.length (s.2.flatMap enc)
def eT{α:Type}(te:TypeId)(sz:Nat)(enc:α→List D)(s:Tl α):List D:=[Slt te sz enc s]
theorem RelH.bag_none{Z:Env}{hp:List Ob}{M:Mp}{w:World}(hr:RelH Z hp M w){bg:Nat}{al:List Bool}{ar:List Ar}{lt:List (Nat×Nat)}(hbag:hp[bg]?=some (.bag al ar lt)):M.l[bg]?=some none∧ObR w (ownZ Z hp M) M (.bag al ar lt) none:=by
 have hbl:bg<hp.length:=(gEs.1 hbag).1
 have e:M.l[bg]?=some (M.l[bg]'(by rw[hr.len];exact hbl)):=gGe _
 have:=hr.obj bg _ _ hbag e
 revert this
 rw[e]
 cases M.l[bg]'(by rw[hr.len];exact hbl) with
 | none=>exact fun h=>⟨rfl,h⟩
 | some _=>exact fun h=>h.elim
theorem Klv{w:World}{O:Ow}{te:TypeId}{sz t n:Nat}{xs:List D}{v:Value}(h:VD w O (.rt te sz t n xs) v):O.Tag te sz n v t:=by
 cases h with
 | rt _ _ _ _ _ _ _ h=>exact h
theorem Klw{Z:Env}{hp:List Ob}{M:Mp}{w:World}(hr:RelH Z hp M w){bg:Nat}{al:List Bool}{ar:List Ar}{lt:List (Nat×Nat)}(hbag:hp[bg]?=some (.bag al ar lt)):(∀ a∈ar,a∈ar)∧ar.Pairwise (fun a a'=>a.t≠a'.t)∧∀ a∈ar,a.isRow=true→al[a.t]?=some true:=
 let ⟨_,_,_,_,q4,q5,_⟩:=hr.bag_none hbag;⟨fun _ h=>h,q5,fun a ha=>(q4 a ha).2.2⟩
theorem Klx{Z:Env}{hp:List Ob}{M:Mp}{w:World}(hr:RelH Z hp M w){bg:Nat}{al al0:List Bool}{ar:List Ar}{lt:List (Nat×Nat)}(hbag:hp[bg]?=some (.bag al ar lt)){te:TypeId}{sz tg n:Nat}{xs:List D}{v:Value}(hvx:VD w (ownZ Z hp M) (.rt te sz tg n xs) v)
  (htg:(tg=1∧al0=al)∨∃ q,tg=q+2∧al[q]?=some true∧al0=al.set q false):(∀ a∈ar,a∈ar)∧ar.Pairwise (fun a a'=>a.t≠a'.t)∧∀ a∈ar,a.isRow=true→al0[a.t]?=some true:=by
 obtain⟨_,_,_,_,q4,q5,_⟩:=hr.bag_none hbag
 refine⟨fun _ h=>h,q5,fun a ha hrow=>?_⟩
 obtain⟨hR,_,hal⟩:=q4 a ha
 rcases htg with⟨_,rfl⟩ | ⟨q,rfl,_,rfl⟩
 ·exact hal hrow
 ·rw[gSn]
  ·exact hal hrow
  ·intro e
   subst e
   cases a with
   | map _ _ _=>cases hrow
   | box _ _ _=>cases hrow
   | row t ty sz n ds=>
    obtain⟨x,hx,⟨hv,_⟩,_⟩:=hR
    have hx':(ownZ Z hp M).h[t]?=some (some x):=hx
    rcases Klv hvx with⟨hn,_⟩ | ⟨x',hn,_,_,_,hv',_⟩
    ·have hn':(ownZ Z hp M).h[t]?=some none:=hn
     rw[hx'] at hn';cases hn'
    ·have hn':(ownZ Z hp M).h[t]?=some (some x'):=hn
     rw[hx'] at hn';cases hn'
     rw[hv] at hv';cases hv'
theorem Kly{Z:Env}{hp hp1:List Ob}{M:Mp}{w w':World}{bg:Nat}{al al0:List Bool}{ar ar1:List Ar}{lt:List (Nat×Nat)}(bn:Bool)(T:Option Tg)(hr:RelH Z hp M w)(hbag:hp[bg]?=some (.bag al ar lt))(hl:hp1.length=hp.length)
  (h1:∀ (i:Nat) (o:Ob),hp1[i]?=some o→o=.dead∨(i≠bg∧hp[i]?=some o)∨(i=bg∧o=.bag (al0++[bn]) ar1 lt)) (hb1:hp1[bg]?=some (.bag (al0++[bn]) ar1 lt))
  (g1:w.heap.size≤w'.heap.size) (g2:w'.os=w.os) (g3:w'.tape=w.tape) (g4:w'.output=w.output) (hkeep:∀ k,k<w.heap.size→(∀ y:Tg,T=some y→k≠y.b)→w'.heap[k]?=w.heap[k]?)
  (hlen:al0.length=al.length) (hal:∀ t:Nat,al0[t]?=some true→al[t]?=some true)
  (hT:∀ y:Tg,T=some y→(bn=true→0<y.sz∧∃ cur:Array Value,w'.heap[y.b]?=some (.cells cur y.t (0,0))∧cur.size=y.c * y.sz∧y.n≤y.c∧y.c≤maxLen)∧y.b<w'.heap.size∧(y.b<w.heap.size→own hp M y.b)∧¬ obOwn hp1 M y.b∧
   (∀ x:Tg,some x∈M.h→x.b=y.b→0<x.sz∧0<y.sz∧x.n * x.sz≤y.n * y.sz∧∀ k,k<x.n * x.sz→w'.cell? ⟨x.b,k,none⟩=w.cell? ⟨x.b,k,none⟩)∧(∀ (t:Nat) (x:Tg),al0[t]?=some true→M.h[t]?=some (some x)→x.b≠y.b))
  (ar0:List Ar) (hsub:(∀ a∈ar0,a∈ar)∧ar0.Pairwise (fun a a'=>a.t≠a'.t)∧∀ a∈ar0,a.isRow=true→al0[a.t]?=some true)
  (har:ar1=ar0∨∃ a,ar1=a :: ar0∧a.t=al.length∧(Stp w (own hp M) w' (own hp1 ⟨M.l,M.h++[T]⟩)→ArR w' (ownZ Z hp1 ⟨M.l,M.h++[T]⟩) ⟨M.l,M.h++[T]⟩ a)∧(a.isRow=true→bn=true)) :
  RelH Z hp1 ⟨M.l,M.h++[T]⟩ w'∧Stp w (own hp M) w' (own hp1 ⟨M.l,M.h++[T]⟩)∧Agr hp.length M ⟨M.l,M.h++[T]⟩:=by
 have hbl:bg<hp.length:=(gEs.1 hbag).1
 have hbm:M.l[bg]?=some none:=by
  have e:M.l[bg]?=some (M.l[bg]'(by rw[hr.len];exact hbl)):=gGe _
  have:=hr.obj bg _ _ hbag e
  revert this
  rw[e]
  cases M.l[bg]'(by rw[hr.len];exact hbl) with
  | none=>exact fun _=>rfl
  | some _=>exact fun h=>h.elim
 have q0:=hr.obj bg _ _ hbag hbm
 obtain⟨q1,q2,q3,q4,q5,q6⟩:=q0
 have hg:hasBag hp:=⟨bg,al,ar,lt,hbag⟩
 have hg1:hasBag hp1:=⟨bg,_,_,_,hb1⟩
 have hmem:∀ x:Tg,some x∈M.h++[T]→some x∈M.h∨T=some x:=fun x hx=>(List.mem_append.1 hx).imp id fun h=>(List.mem_singleton.1 h).symm
 have hget:∀ (t:Nat) (x:Option Tg),M.h[t]?=some x→(M.h++[T])[t]?=some x:=fun t x h=>by rw[gAl (gEs.1 h).1];exact h
 have hsplit:∀ (t:Nat) (x:Tg),(M.h++[T])[t]?=some (some x)→(t<al.length∧M.h[t]?=some (some x))∨(t=al.length∧T=some x):=fun t x hx=>by
  by_cases ht:t<al.length
  ·rw[gAl (by omega)] at hx;exact .inl ⟨ht,hx⟩
  ·rw[gAr (by omega)] at hx
   have hk:t - M.h.length=0:=by
    have:=(gEs.1 hx).1
    simp at this;exact this
   rw[hk] at hx
   simp at hx
   exact .inr ⟨by omega,hx⟩
 have hob:∀ b,obOwn hp1 M b→obOwn hp M b:=by
  rintro b ⟨i,o,c,e1,e2,e3⟩
  rcases h1 i o e1 with rfl | ⟨_,e⟩ | ⟨rfl,rfl⟩
  ·cases e2
  ·exact⟨i,o,c,e,e2,e3⟩
  ·rw[hbm] at e3;cases e3
 have hown:∀ b,b<w.heap.size→own hp1 ⟨M.l,M.h++[T]⟩ b→own hp M b:=by
  rintro b hb (h | ⟨_,x,hx,rfl⟩)
  ·exact .inl (hob b h)
  ·rcases hmem x hx with hx | hx
   ·exact .inr ⟨hg,x,hx,rfl⟩
   ·exact(hT x hx).2.2.1 hb
 have hfz:∀ x:Tg,some x∈M.h→∀ k,k<x.n * x.sz→w'.cell? ⟨x.b,k,none⟩=w.cell? ⟨x.b,k,none⟩:=fun x hx k hk=>by
  by_cases hxy:∃ y,T=some y∧x.b=y.b
  ·obtain⟨y,hy,e⟩:=hxy
   exact((hT y hy).2.2.2.2.1 x hx e).2.2.2 k hk
  ·exact World.cell?_of_block (hkeep _ (hr.bags.tgs x hx).1 fun y hy e=>hxy ⟨y,hy,e⟩)
 have hst:Stp w (own hp M) w' (own hp1 ⟨M.l,M.h++[T]⟩):=by
  refine⟨g1,fun b hb hn=>hkeep b hb fun y hy e=>?_,hown,g2,g3,g4,⟨[T],rfl,fun x hx hb=>?_⟩,hfz,fun h=>absurd hg h⟩
  ·subst e;exact hn ((hT y hy).2.2.1 hb)
  ·exact(hT x (List.mem_singleton.1 hx).symm).2.2.1 hb
 have harR:∀ a∈ar0,ArR w' (ownZ Z hp1 ⟨M.l,M.h++[T]⟩) ⟨M.l,M.h++[T]⟩ a:=fun a ha0=>by
  have ha:=hsub.1 a ha0
  refine ArR.move (M:=M) (M':=⟨M.l,M.h++[T]⟩) (Kqe Z hst) (q4 a ha).1 (fun t x h=>hget t _ h) fun x hx=>?_
  have hm:=mOg hx
  refine hkeep _ (hr.bags.tgs x hm).1 fun y hy e=>?_
  cases hrow:a.isRow with
  | true=>exact(hT y hy).2.2.2.2.2 a.t x (hsub.2.2 a ha0 hrow) hx e
  | false=>
   have hz:x.sz=0:=by
    have:=(q4 a ha).1
    cases a with
    | map t agg es=>obtain⟨x',e1,e2,_⟩:=this;have hx':M.h[t]?=some (some x):=hx;rw[hx'] at e1;cases e1;exact e2
    | box t ty ds=>obtain⟨x',e1,e2,_⟩:=this;have hx':M.h[t]?=some (some x):=hx;rw[hx'] at e1;cases e1;exact e2
    | row _ _ _ _ _=>cases hrow
   have:=((hT y hy).2.2.2.2.1 x hm e).1
   omega
 refine⟨⟨by rw[hl];exact hr.len,fun i o m e1 e2=>?_,fun b hb hz=>?_,fun b hb=>nLl (hr.old b hb) g1,hr.amb_stp hst,fun i j oi oj b c c' hi hj li lj mi mj=>?_,⟨fun x hx=>⟨?_,fun hz h=>?_⟩,fun i j a a' ar ar' lt lt' hi hj=>?_,fun i a ar' lt' hi t x hx h=>?_,fun t t' x x' hx hx' hz hb=>?_⟩⟩,hst,⟨by rw[show(⟨M.l,M.h++[T]⟩:Mp).l.length=M.l.length from rfl,hr.len];exact Nat.le_refl _,fun _ _=>rfl⟩⟩
 ·have e2':M.l[i]?=some m:=e2
  rcases h1 i o e1 with rfl | ⟨hi,e⟩ | ⟨rfl,rfl⟩
  ·cases m<;>trivial
  ·have:=hr.obj i o m e e2'
   refine this.move (k:=M.l.length) (M:=M) (M':=⟨M.l,M.h++[T]⟩) (Kqe Z hst) (fun _ _=>rfl) this.bel (fun b c em hl2=>?_) fun a ar' lt' ea=>?_
   ·subst em
    refine hkeep b (hr.block_ob ⟨i,o,c,e,hl2,e2'⟩) fun y hy eb=>(hT y hy).2.2.2.1 ⟨i,o,c,e1,hl2,eb▸e2'⟩
   ·subst ea
    exact absurd (hr.bags.one _ _ _ _ _ _ _ _ e hbag) hi
  ·rw[hbm] at e2'
   cases e2'
   have hnew:∀ (t:Nat) (x:Tg),(al0++[bn])[t]?=some true→(M.h++[T])[t]?=some (some x)→(t<al.length∧al0[t]?=some true∧M.h[t]?=some (some x))∨(t=al.length∧bn=true∧T=some x):=fun t x ha hx=>by
    rcases hsplit t x hx with⟨ht,hx⟩ | ⟨ht,hx⟩
    ·rw[gAl (by omega)] at ha
     exact .inl ⟨ht,ha,hx⟩
    ·rw[gAr (by omega)] at ha
     have:t - al0.length=0:=by omega
     rw[this] at ha
     simp at ha
     exact .inr ⟨ht,ha,hx⟩
   have hlt:∀ t id,(t,id)∈lt→t<al.length:=fun t id hm=>by
    obtain⟨x,c,e,_⟩:=q6 t id hm
    rw[q1];exact(gEs.1 e).1
   have hart:∀ a∈ar,a.t<al.length:=fun a ha=>by
    have:=(q4 a ha).1
    cases a with
    | map t agg es=>obtain⟨x',e1,_⟩:=this;rw[q1];exact(gEs.1 e1).1
    | box t ty ds=>obtain⟨x',e1,_⟩:=this;rw[q1];exact(gEs.1 e1).1
    | row t ty sz n ds=>obtain⟨x',e1,_⟩:=this;rw[q1];exact(gEs.1 e1).1
   have hal1:∀ a∈ar0,a.isRow=true→(al0++[bn])[a.t]?=some true:=fun a ha hrow=>by
    have:=hsub.2.2 a ha hrow
    rw[gAl (gEs.1 this).1];exact this
   refine⟨by simp;omega,fun t x ha hx=>?_,fun t t' x x' ha hx hx' hb=>?_,fun a ha=>?_,?_,fun t id hm=>?_⟩
   ·rcases hnew t x ha hx with⟨_,ha',hx'⟩ | ⟨_,hb,hy⟩
    ·obtain⟨hz,cs,k1,k2⟩:=q2 t x (hal t ha') hx'
     refine⟨hz,cs,?_,k2⟩
     rw[hkeep _ (hr.bags.tgs x (mOg hx')).1 fun y hy=>(hT y hy).2.2.2.2.2 t x ha' hx']
     exact k1
    ·exact(hT x hy).1 hb
   ·have hx2:=hsplit t' x' hx'
    rcases hnew t x ha hx with⟨ht,ha',hx1⟩ | ⟨ht,hbn,hy⟩
    ·rcases hx2 with⟨ht',hx2⟩ | ⟨ht',hy'⟩
     ·obtain⟨k1,k2⟩:=q3 t t' x x' (hal t ha') hx1 hx2 hb
      refine⟨k1,fun ha2=>k2 (hal t' ?_)⟩
      rw[gAl (by omega)] at ha2
      exact ha2
     ·exact absurd hb.symm ((hT x' hy').2.2.2.2.2 t x ha' hx1)
    ·rcases hx2 with⟨ht',hx2⟩ | ⟨ht',hy'⟩
     ·refine⟨((hT x hy).2.2.2.2.1 x' (mOg hx2) hb).2.2.1,fun ha2=>?_⟩
      rw[gAl (by omega)] at ha2
      exact absurd hb ((hT x hy).2.2.2.2.2 t' x' ha2 hx2)
     ·rw[hy] at hy'
      cases hy'
      exact⟨Nat.le_refl _,fun _=>by omega⟩
   ·rcases har with rfl | ⟨a0,rfl,e,hR,hbn⟩
    ·exact⟨harR a ha,(q4 a (hsub.1 a ha)).2.1,hal1 a ha⟩
    ·rcases List.mem_cons.1 ha with rfl | ha
     ·exact⟨hR hst,fun id hm=>by have:=hlt _ _ hm;omega,fun hrow=>by rw[e,←hlen,gAr (Nat.le_refl _),hbn hrow];simp⟩
     ·exact⟨harR a ha,(q4 a (hsub.1 a ha)).2.1,hal1 a ha⟩
   ·rcases har with rfl | ⟨a0,rfl,e,hR,_⟩
    ·exact hsub.2.1
    ·exact List.pairwise_cons.2 ⟨fun a ha=>by have:=hart a (hsub.1 a ha);omega,hsub.2.1⟩
   ·obtain⟨x,c,e1,e2,e3⟩:=q6 t id hm
    exact⟨x,c,hget t _ e1,e2,e3⟩
 ·by_cases hb':b<w.heap.size
  ·exact hr.apart b (hown b hb' hb) hz
  ·exact absurd (hr.old b hz) hb'
 ·have key:∀ (i:Nat) (o:Ob) (c:Nat),hp1[i]?=some o→o.live=true→M.l[i]?=some (some (b,c))→hp[i]?=some o:=fun i o c e1 e2 e3=>by
   rcases h1 i o e1 with rfl | ⟨_,e⟩ | ⟨rfl,rfl⟩
   ·cases e2
   ·exact e
   ·rw[hbm] at e3;cases e3
  exact hr.inj i j oi oj b c c' (key i oi c hi li mi) (key j oj c' hj lj mj) li lj mi mj
 ·rcases hmem x hx with hx | hx
  ·exact nLl (hr.bags.tgs x hx).1 g1
  ·exact(hT x hx).2.1
 ·rcases hmem x hx with hx | hx
  ·exact(hr.bags.tgs x hx).2 hz (hob _ h)
  ·exact(hT x hx).2.2.2.1 h
 ·have key:∀ (i:Nat) (a:List Bool) (ar:List Ar) (lt:List (Nat×Nat)),hp1[i]?=some (.bag a ar lt)→i=bg:=fun i a ar lt e=>by
   rcases h1 i _ e with h | ⟨_,h⟩ | ⟨h,_⟩
   ·cases h
   ·exact hr.bags.one _ _ _ _ _ _ _ _ h hbag
   ·exact h
  rw[key i a ar lt hi,key j a' ar' lt' hj]
 ·rcases hsplit t x hx with⟨_,hx⟩ | ⟨_,hx⟩
  ·obtain⟨id,h3⟩:=hr.bags.lnd bg al ar lt hbag t x hx (hob _ h)
   rcases h1 i _ hi with h4 | ⟨h5,h4⟩ | ⟨_,h4⟩
   ·cases h4
   ·exact absurd (hr.bags.one _ _ _ _ _ _ _ _ h4 hbag) h5
   ·cases h4;exact⟨id,h3⟩
  ·exact absurd h (hT x hx).2.2.2.1
 ·rcases hsplit t x hx with⟨ht,hx⟩ | ⟨ht,hx⟩
  ·rcases hsplit t' x' hx' with⟨ht',hx'⟩ | ⟨ht',hx'⟩
   ·exact hr.bags.hds t t' x x' hx hx' hz hb
   ·have:=((hT x' hx').2.2.2.2.1 x (mOg hx) hb.symm).1
    omega
  ·rcases hsplit t' x' hx' with⟨ht',hx'⟩ | ⟨ht',hx'⟩
   ·have:=((hT x hx).2.2.2.2.1 x' (mOg hx') hb).2.1
    omega
   ·omega
section
variable{P:Program}{Γ:TypeId→Option TI}{F N:Nat}{Q:GPost}{fr fr':Fr}{hp hp':List Ob}{ks:List Kt}
variable{ops:Array Oper}{rest:List Oper}{g:G}{α:Type}{enc:α→List D}
variable{d:Tmp}{op:Op}{ty:TypeId}{pos:String}{after:Array Edge}{gd:Option (Nat×Bool)}
theorem Klz{Z:Env}{M:Mp}{w:World}{bg t te tyo:TypeId}{i2:TI}{al al0:List Bool}{ar:List Ar}{lt:List (Nat×Nat)}{n m tg:Nat}{ds ys:List D}{sv xv:Value}(hΓ:TOK P Γ)(u1:P.underlying t=some (.slice te))(h2:Γ te=some i2)(hz:Nat.beq i2.zero.cells.size i2.size=true)(hz0:Nat.blt 0 i2.size=true)
  (hr:RelH Z hp M w) (hx:VD w (ownZ Z hp M) (.rt te i2.size tg n ds) sv) (hdl:ds.length=n * i2.size) (hy:VD w (ownZ Z hp M) (.ro m ys) xv) (hl:ys.length=m * i2.size) (hb:(n+m) * i2.bytes≤140737488355328) (hm:n+m≤maxLen) (hm0:0<m)
  (hbag:hp[bg]?=some (.bag al ar lt)) (htg:(tg=1∧al0=al)∨∃ q,tg=q+2∧al[q]?=some true∧al0=al.set q false) :
  ∃ (v':Value) (w':World) (gb c':Nat) (cur:Array Value),(Builtin.append_ #[t,t] tyo #[sv,xv]).run P w=.ok v' w'∧w.heap.size≤w'.heap.size∧w'.os=w.os∧w'.tape=w.tape∧w'.output=w.output∧v'=.slice (some ⟨gb,0,none⟩) (n+m) c'∧
   w'.heap[gb]?=some (.cells cur te (0,0))∧cur.size=c' * i2.size∧n+m≤c'∧c'≤maxLen∧(∀ (j:Nat) (dd:D),(ds++ys)[j]?=some dd→∃ u,cur[j]?=some u∧VD w (ownZ Z hp M) dd u)∧(∀ k,k<w.heap.size→k≠gb→w'.heap[k]?=w.heap[k]?)∧
   (w.heap.size≤gb∨∃ (q:Nat) (x:Tg),tg=q+2∧al[q]?=some true∧al0=al.set q false∧M.h[q]?=some (some x)∧x.b=gb∧x.n=n∧x.sz=i2.size∧∀ k,k<n * i2.size→w'.cell? ⟨gb,k,none⟩=w.cell? ⟨gb,k,none⟩):=by
 obtain⟨_,inf,e1,e2,e3,e4⟩:=hΓ te _ h2
 have hzs:i2.zero.cells.size=inf.size:=by rw[e2];exact nEq hz
 have hpos:0<i2.size:=nblt.1 hz0
 cases hx with
 | rt _ _ _ _ _ _ hx hT=>
 obtain⟨xb,xo,xc,news,rfl,hnl,hnc,hnv,hn1⟩:∃ (b off cap:Nat) (vs:List Value),xv=.slice (some ⟨b,off,none⟩) m cap∧vs.length=ys.length∧(∀ (j:Nat) (u:Value),vs[j]?=some u→w.cell? ⟨b,off+j,none⟩=some u)∧(∀ (j:Nat) (u:Value) (d:D),vs[j]?=some u→ys[j]?=some d→VD w (ownZ Z hp M) d u)∧∀ u∈vs,u.oneCell'=true:=by
  rcases Kdd hy with⟨_,rfl,_⟩ | h
  ·omega
  ·exact h
 have hnews:∀ (cur:Array Value),(∀ j u,news[j]?=some u→cur[n * i2.size+j]?=some u)→∀ (j:Nat) (dd:D),ys[j]?=some dd→∃ u,cur[n * i2.size+j]?=some u∧VD w (ownZ Z hp M) dd u:=fun cur hc j dd hj=>by
  have hlt:j<news.length:=by rw[hnl];exact(gEs.1 hj).1
  have:=gGe hlt
  exact⟨_,hc j _ this,hnv j _ dd this hj⟩
 have hboth:∀ (cur:Array Value),(∀ (j:Nat) (dd:D),ds[j]?=some dd→∃ u,cur[j]?=some u∧VD w (ownZ Z hp M) dd u)→(∀ j u,news[j]?=some u→cur[n * i2.size+j]?=some u)→∀ (j:Nat) (dd:D),(ds++ys)[j]?=some dd→∃ u,cur[j]?=some u∧VD w (ownZ Z hp M) dd u:=fun cur h1 h2 j dd hj=>by
  by_cases hjd:j<ds.length
  ·rw[gAl hjd] at hj;exact h1 j dd hj
  ·rw[gAr (by omega)] at hj
   obtain⟨u,k1,k2⟩:=hnews cur h2 _ dd hj
   exact⟨u,by rw[←k1];congr 1;omega,k2⟩
 have nilCase:sv=.slice none 0 0→n=0→∃ (v':Value) (w':World) (gb c':Nat) (cur:Array Value),(Builtin.append_ #[t,t] tyo #[sv,.slice (some ⟨xb,xo,none⟩) m xc]).run P w=.ok v' w'∧w.heap.size≤w'.heap.size∧w'.os=w.os∧w'.tape=w.tape∧w'.output=w.output∧v'=.slice (some ⟨gb,0,none⟩) (n+m) c'∧
   w'.heap[gb]?=some (.cells cur te (0,0))∧cur.size=c' * i2.size∧n+m≤c'∧c'≤maxLen∧(∀ (j:Nat) (dd:D),(ds++ys)[j]?=some dd→∃ u,cur[j]?=some u∧VD w (ownZ Z hp M) dd u)∧(∀ k,k<w.heap.size→k≠gb→w'.heap[k]?=w.heap[k]?)∧w.heap.size≤gb:=by
  rintro rfl rfl
  obtain⟨v',w',mo',hrun,k1,k2,k3,k4,hres⟩:=Kde (P:=P) (tyo:=tyo) (n:=0) (m:=m) (cs0:=#[]) (sv:=.slice none 0 0) none u1 e1 e4 hzs (by rw[e2];exact hpos) (.inl ⟨rfl,rfl,rfl⟩) (.inr ⟨xb,xo,xc,rfl,hnc⟩) (by rw[hnl,hl,e2]) hn1 hm (by rw[e3];exact hb)
  rcases hres with⟨_,_,r3,_⟩ | ⟨b',c',cur,r1,r2,r3,r4,r5,r6,r7,r8,r9,r10⟩
  ·omega
  ·rcases r10 with⟨c,hc⟩ | r10
   ·cases hc
   ·have hds:ds=[]:=List.eq_nil_of_length_eq_zero (by simpa using hdl)
    subst hds
    exact⟨v',w',b',c',cur,hrun,k1,k2,k3,k4,r2,r3,by rw[r4,e2],r5,r6,hboth cur (fun j dd h=>by simp at h) (fun j u h=>by have:=r8 j u h;rw[e2] at this;exact this),r9,by omega⟩
 rcases htg with⟨rfl,rfl⟩ | ⟨q,rfl,hq,rfl⟩
 ·
  obtain⟨a,rfl,_⟩:=hT
  rcases Kdd hx with⟨e,rfl,rfl⟩ | ⟨b,off,cap,vs,e,hvl,hvc,hvv,_⟩
  ·obtain⟨v',w',gb,c',cur,k1,k2,k3,k4,k5,k6,k7,k8,k9,k10,k11,k12,k13⟩:=nilCase e rfl
   exact⟨v',w',gb,c',cur,k1,k2,k3,k4,k5,k6,k7,k8,k9,k10,k11,k12,.inl k13⟩
  ·cases e
   obtain⟨v',w',r1,r2,r3⟩:=run_append_arg_grows (P:=P) w t tyo te inf i2.zero inf.size inf.bytes u1 e1 e4 rfl rfl hzs (by rw[e2];exact hpos) ⟨b,off,none⟩ n n vs (by rw[hvl,hdl,e2]) (fun j u hj=>by rw[Addr.add_lit];exact hvc j u hj) ⟨xb,xo,none⟩ m xc news (by rw[hnl,hl,e2]) (fun j u hj=>by rw[Addr.add_lit];exact hnc j u hj) (by omega) hm (by rw[e3];exact hb)
   rcases r2.2 with⟨rfl,hn0⟩ | ⟨gb,c',cur,rfl,q1,q2,q3,q4,q5,q6⟩
   ·omega
   ·have hcur:∀ j u,(vs++news)[j]?=some u→cur[j]?=some u:=fun j u hj=>by
     have hlt:=(gEs.1 hj).1
     rw[←q6,List.getElem?_take_of_lt (by rw[List.length_append,hvl,hnl,hdl,hl,←Nat.add_mul,←e2] at hlt;exact hlt)] at hj
     simpa using hj
    refine⟨_,w',gb,c',cur,r1,r3.size,r3.os,r3.tape,r3.output,rfl,q2,by rw[q5,e2],q3,q4,hboth cur (fun j dd hj=>?_) (fun j u hj=>?_),fun k hk hne=>r3.block k hk (by simp),.inl q1⟩
    ·have hlt:j<vs.length:=by rw[hvl];exact(gEs.1 hj).1
     have hv:=gGe hlt
     exact⟨_,hcur j _ (by rw[gAl hlt];exact hv),hvv j _ dd hv hj⟩
    ·refine hcur _ u ?_
     rw[gAr (by rw[hvl,hdl];omega),hvl,hdl]
     rw[←hj];congr 1;omega
 ·rcases hT with⟨hn,rfl⟩ | ⟨x,hxh,hxn,hxt,hxs,_,rfl⟩
  ·have:n=0:=by
    cases hx with
    | nil=>rfl
   obtain⟨v',w',gb,c',cur,k1,k2,k3,k4,k5,k6,k7,k8,k9,k10,k11,k12,k13⟩:=nilCase rfl this
   exact⟨v',w',gb,c',cur,k1,k2,k3,k4,k5,k6,k7,k8,k9,k10,k11,k12,.inl k13⟩
  ·subst hxn;subst hxt
   have hbl:bg<hp.length:=(gEs.1 hbag).1
   have e:M.l[bg]?=some (M.l[bg]'(by rw[hr.len];exact hbl)):=gGe _
   have hbo:=hr.obj bg _ _ hbag e
   obtain⟨cs0,c1,c2,c3,c4⟩:∃ cs:Array Value,w.heap[x.b]?=some (.cells cs x.t (0,0))∧cs.size=x.c * x.sz∧x.n≤x.c∧x.c≤maxLen:=by
    revert hbo
    cases M.l[bg]'(by rw[hr.len];exact hbl) with
    | none=>exact fun h=>(h.2.1 q x hq hxh).2
    | some _=>exact fun h=>h.elim
   obtain⟨v',w',mo',hrun,k1,k2,k3,k4,hres⟩:=Kde (P:=P) (tyo:=tyo) (n:=x.n) (m:=m) (cs0:=cs0) (sv:=.slice (some ⟨x.b,0,none⟩) x.n x.c) (some (x.b,x.c)) u1 e1 e4 hzs (by rw[e2];exact hpos) (.inr ⟨x.b,x.c,rfl,rfl,c1,by rw[c2,hxs,e2],c3,c4⟩) (.inr ⟨xb,xo,xc,rfl,hnc⟩) (by rw[hnl,hl,e2]) hn1 hm (by rw[e3];exact hb)
   have holds:∀ (j:Nat) (dd:D),ds[j]?=some dd→∃ u,cs0[j]?=some u∧VD w (ownZ Z hp M) dd u:=fun j dd hj=>by
    rcases Kdd hx with⟨e,_⟩ | ⟨b,off,cap,vs,e,hvl,hvc,hvv,_⟩
    ·simp at e
    ·simp only[Value.slice.injEq,Option.some.injEq,Addr.mk.injEq] at e
     obtain⟨⟨e1,e2,_⟩,_⟩:=e
     subst e2
     have hlt:j<vs.length:=by rw[hvl];exact(gEs.1 hj).1
     have hv:=gGe hlt
     have:=hvc j _ hv
     rw[Nat.zero_add,←e1,cell_of_row w x.b j cs0 _ _ c1] at this
     exact⟨_,this,hvv j _ dd hv hj⟩
   rcases hres with⟨_,_,r3,_⟩ | ⟨b',c',cur,r1,r2,r3,r4,r5,r6,r7,r8,r9,r10⟩
   ·omega
   ·have hold':∀ (j:Nat) (dd:D),ds[j]?=some dd→∃ u,cur[j]?=some u∧VD w (ownZ Z hp M) dd u:=fun j dd hj=>by
     obtain⟨u,f1,f2⟩:=holds j dd hj
     have hlt:=(gEs.1 hj).1
     exact⟨u,by rw[r7 j (by rw[←e2] at hdl;omega) (by simp)];exact f1,f2⟩
    refine⟨v',w',b',c',cur,hrun,k1,k2,k3,k4,r2,r3,by rw[r4,e2],r5,r6,hboth cur hold' (fun j u h=>by have:=r8 j u h;rw[e2] at this;exact this),r9,?_⟩
    rcases r10 with⟨c,hc⟩ | r10
    ·cases hc
     refine .inr ⟨q,x,rfl,hq,rfl,hxh,rfl,rfl,hxs,fun k hk=>?_⟩
     rw[cell_of_row w' x.b k cur _ _ r3,cell_of_row w x.b k cs0 _ _ c1]
     exact r7 k (by rw[e2];exact hk) (by simp)
    ·exact .inl (by omega)
def appT{α:Type}(al:List Bool)(s:Tl α)(m:List α):Option (Tl α×List Bool):=
 bi (apd s.2 m) fun r=>bif m.isEmpty then some (s,al) else match s.1 with
  | 0=>none
  | 1=>some ((al.length+2,r),al++[true])
  | t+2=>bif (al[t]?).getD false then some ((al.length+2,r),al.set t false++[true]) else none
theorem Kma{al al':List Bool}{s r:Tl α}{m:List α}(h:appT al s m=some (r,al')):apd s.2 m=some (s.2++m)∧((m=[]∧r=s∧al'=al)∨(m≠[]∧r=(al.length+2,s.2++m)∧∃ al0,al'=al0++[true]∧((s.1=1∧al0=al)∨∃ q,s.1=q+2∧al[q]?=some true∧al0=al.set q false))):=by
 unfold appT at h
 obtain⟨r0,hr,h⟩:=Kfv h
 obtain⟨rfl,hle⟩:=Kga hr
 refine⟨hr,?_⟩
 cases m with
 | nil=>simp at h;exact .inl ⟨rfl,h.1.symm,h.2.symm⟩
 | cons y m=>
  right
  simp only[List.isEmpty_cons,cond_false] at h
  refine⟨by simp,?_⟩
  obtain⟨t,l⟩:=s
  match t,h with
  | 1,h=>simp at h;exact⟨h.1.symm,al,h.2.symm,.inl ⟨rfl,rfl⟩⟩
  | t+2,h=>
   simp only at h
   cases hc:(al[t]?).getD false with
   | false=>rw[hc] at h;cases h
   | true=>
    rw[hc] at h
    simp at h
    refine⟨h.1.symm,al.set t false,h.2.symm,.inr ⟨t,rfl,?_,rfl⟩⟩
    cases hq:al[t]? with
    | none=>rw[hq] at hc;cases hc
    | some b=>rw[hq] at hc;simp at hc;rw[hc]
theorem Kmb{w:World}{t te tyo:TypeId}{inf:TypeInfo}{n c:Nat}{a:Option Addr}{xv:Value}(hu:P.underlying t=some (.slice te))(hi:P.info? te=some inf)(hn:n≤c)(hx:(xv=.slice none 0 0)∨∃ b cap,xv=.slice (some b) 0 cap) :
  (Builtin.append_ #[t,t] tyo #[.slice a n c,xv]).run P w=.ok (.slice a n c) w:=by
 rcases hx with rfl | ⟨b,cap,rfl⟩
 ·cases a<;>simp[Builtin.append_,run_underlying hu,sizeOf,typeInfo,hi,Builtin.lenOf,Builtin.firstCells,hn,storeCells]
 ·cases a<;>simp[Builtin.append_,run_underlying hu,sizeOf,typeInfo,hi,Builtin.lenOf,Builtin.firstCells,loadCells,loadCellsFrom,hn,storeCells]
theorem Kmc{w:World}{O:Ow}{n:Nat}{xs:List D}{v:Value}(h:VD w O (.ro n xs) v):∃ a c,v=.slice a n c∧n≤c:=by
 cases h with
 | nil=>exact⟨_,_,rfl,Nat.le_refl _⟩
 | ro _ _ b off cap vs h3 h4 h5=>exact⟨_,_,rfl,h5⟩
theorem Kmd(hΓ:TOK P Γ){t te:TypeId}{i1 i2:TI}{x y:Operand}{bg:Nat}{s r:Tl α}{m:List α}{al al':List Bool}{ar:List Ar}{lt:List (Nat×Nat)}{hp2:List Ob}(hz:appT al s m=some (r,al'))(h1:Γ t=some i1)(h1':i1.desc=.slice te)(h2:Γ te=some i2)(hzc:Nat.beq i2.zero.cells.size i2.size=true)(hz0:Nat.blt 0 i2.size=true)
  (hx:fr.ev x=some (.d (Slt te i2.size enc s))) (hy:fr.ev y=some (.d (Sl enc m))) (hbag:hp[bg]?=some (.bag al ar lt)) (henc:∀ y,(enc y).length=i2.size) (hbytes:Nat.ble (4294967296 * i2.bytes) 140737488355328=true) (hhp:hp.set bg (.bag al' ar lt)=hp2) :
  OpS P N ⟨some d,.call ⟨.builtin .append,#[x,y],#[t,t]⟩,ty,pos,after,gd⟩ fr hp (.d (Slt te i2.size enc r)) hp2:=by
 subst hhp
 intro Z w M a hr
 obtain⟨u1,_⟩:=hΓ t _ h1
 rw[h1'] at u1
 have hvx:=hr.ev hx
 have hvy:=hr.ev hy
 obtain⟨hap,hcase⟩:=Kma hz
 obtain⟨_,hle⟩:=Kga hap
 generalize hvvx:a.eval x=vx at hvx
 generalize hvvy:a.eval y=vy at hvy
 cases hvx with
 | d hvx=>
 cases hvy with
 | d hvy=>
 have hb:=nBe hbytes
 have hmul:(s.2.length+m.length) * i2.bytes≤4294967296 * i2.bytes:=Nat.mul_le_mul_right _ hle
 rcases hcase with⟨rfl,rfl,rfl⟩ | ⟨hmne,rfl,al0,rfl,htg⟩
 ·obtain⟨_,inf,e1,e2,e3,e4⟩:=hΓ te _ h2
  have hset:hp.set bg (.bag al' ar lt)=hp:=by
   apply List.ext_getElem?
   intro j
   by_cases hj:bg=j
   ·subst hj;rw[gSs (gEs.1 hbag).1,hbag]
   ·rw[gSn hj]
  rw[hset]
  have hrun:(Builtin.append_ #[t,t] ty #[vx,vy]).run P w=.ok vx w:=by
   have hxx:∃ a' n' c',vx=.slice a' n' c'∧n'≤c':=by
    cases hvx with
    | rt _ _ _ _ _ _ hx' _=>exact let ⟨a',c',e,h⟩:=Kmc hx';⟨a',_,c',e,h⟩
   obtain⟨a',n',c',rfl,hn'⟩:=hxx
   refine Kmb u1 e1 hn' ?_
   rcases Kdd hvy with⟨e,_⟩ | ⟨b,off,cap,vs,e,_⟩
   ·exact .inl e
   ·exact .inr ⟨_,_,e⟩
  exact⟨vx,w,M,by simp[execOp,resolve,invoke,builtin,hvvx,hvvy,hrun],hr.heap,.d hvx,.refl _ _,⟨Nat.le_of_eq hr.heap.len.symm,fun _ _=>rfl⟩⟩
 ·have hm0:0<m.length:=by cases m with
   | nil=>exact absurd rfl hmne
   | cons _ _=>simp
  obtain⟨v',w',gb,c',cur,k1,k2,k3,k4,k5,k6,k7,k8,k9,k10,k11,k12,k13⟩:=Klz (P:=P) (tyo:=ty) (bg:=bg) hΓ u1 h2 hzc hz0 hr.heap hvx (Kgl henc s.2) hvy (Kgl henc m) (by omega) (by simp only[maxLen];omega) hm0 hbag htg
  have hbl:bg<hp.length:=(gEs.1 hbag).1
  have hlen:al0.length=al.length:=by rcases htg with⟨_,rfl⟩ | ⟨q,_,_,rfl⟩<;>simp
  have hal:∀ t:Nat,al0[t]?=some true→al[t]?=some true:=fun t ht=>by
   rcases htg with⟨_,rfl⟩ | ⟨q,_,_,rfl⟩
   ·exact ht
   ·by_cases hqt:q=t
    ·subst hqt
     have hl:=(gEs.1 ht).1
     rw[gSs (by simpa using hl)] at ht
     cases ht
    ·rw[gSn hqt] at ht;exact ht
  have hobg:¬ obOwn (hp.set bg (.bag (al0++[true]) ar lt)) M gb:=by
   rintro⟨i,o,c,e1,e2,e3⟩
   have hold:hp[i]?=some o∧o.live=true:=by
    by_cases hi:bg=i
    ·subst hi
     exfalso
     have:=hr.heap.obj bg _ _ hbag e3
     exact this
    ·rw[gSn hi] at e1;exact⟨e1,e2⟩
   rcases k13 with h | ⟨q,x,_,_,_,hxh,rfl,_,hxs,_⟩
   ·have:=hr.heap.block_ob ⟨i,o,c,hold.1,hold.2,e3⟩;omega
   ·exact(hr.heap.bags.tgs x (mOg hxh)).2 (by rename_i hxs _;rw[hxs];exact nblt.1 hz0) ⟨i,o,c,hold.1,hold.2,e3⟩
  have hbo:al.length=M.h.length∧(∀ (t t':Nat) (x x':Tg),al[t]?=some true→M.h[t]?=some (some x)→M.h[t']?=some (some x')→x'.b=x.b→x'.n * x'.sz≤x.n * x.sz∧(al[t']?=some true→t'=t)):=by
   have e:M.l[bg]?=some (M.l[bg]'(by rw[hr.heap.len];exact hbl)):=gGe _
   have:=hr.heap.obj bg _ _ hbag e
   revert this
   cases M.l[bg]'(by rw[hr.heap.len];exact hbl) with
   | none=>exact fun h=>⟨h.1,h.2.2.1⟩
   | some _=>exact fun h=>h.elim
  obtain⟨r1,r2,r3⟩:=Kly (hp1:=hp.set bg (.bag (al0++[true]) ar lt)) (al0:=al0) true (some ⟨gb,s.2.length+m.length,c',i2.size,te,false⟩) hr.heap hbag (by simp) (fun i o hi=>by
    by_cases hib:bg=i
    ·subst hib;rw[gSs hbl] at hi;cases hi;exact .inr (.inr ⟨rfl,rfl⟩)
    ·rw[gSn hib] at hi;exact .inr (.inl ⟨Ne.symm hib,hi⟩)) (gSs hbl) k2 k3 k4 k5 (fun k hk hne=>k12 k hk (hne _ rfl)) hlen hal (fun y hy=>by
    cases hy
    refine⟨fun _=>⟨nblt.1 hz0,cur,k7,k8,k9,k10⟩,(aEs.1 k7).1,fun hlt=>?_,hobg,fun x hx hxb=>?_,fun t x ht hx hxb=>?_⟩
    ·rcases k13 with h | ⟨q,x,_,_,_,hxh,hxb,_⟩
     ·have:gb<w.heap.size:=hlt;omega
     ·exact .inr ⟨⟨bg,al,ar,lt,hbag⟩,x,mOg hxh,hxb⟩
    ·rcases k13 with h | ⟨q,x0,_,hq,_,hxh,hxb0,hxn,hxs,hfz⟩
     ·have:=(hr.heap.bags.tgs x hx).1
      rw[hxb] at this
      exact absurd this (Nat.not_lt.2 h)
     ·obtain⟨t',ht'⟩:=List.getElem?_of_mem hx
      have hle2:=(hbo.2 q t' x0 x hq hxh ht' (hxb.trans hxb0.symm)).1
      have hmm:s.2.length * i2.size≤(s.2.length+m.length) * i2.size:=Nat.mul_le_mul_right _ (by omega)
      rw[hxn,hxs] at hle2
      have hz1:0<i2.size:=nblt.1 hz0
      have hzx:0<x.sz:=Nat.pos_of_ne_zero fun e=>by
       have:=hr.heap.bags.hds t' q x x0 ht' hxh e (hxb0.trans hxb.symm)
       subst this;rw[ht'] at hxh;cases hxh;omega
      refine⟨hzx,hz1,Nat.le_trans hle2 hmm,fun k hk=>?_⟩
      rw[hxb]
      exact hfz k (nLl hk hle2)
    ·rcases k13 with h | ⟨q,x0,_,hq,ha0,hxh,hxb0,_⟩
     ·have:=(hr.heap.bags.tgs x (mOg hx)).1
      rw[hxb] at this
      exact absurd this (Nat.not_lt.2 h)
     ·have hqt:=(hbo.2 q t x0 x hq hxh hx (hxb.trans hxb0.symm)).2 (hal t ht)
      subst hqt
      rw[ha0,gSs (gEs.1 hq).1] at ht
      cases ht) ar (Klx hr.heap hbag hvx htg) (.inl rfl)
  refine⟨v',w',_,by simp[execOp,resolve,invoke,builtin,hvvx,hvvy,k1],r1,.d (.rt _ _ _ _ _ _ ?_ ?_),r2,r3⟩
  ·rw[k6]
   have hlr:(s.2++m).length=s.2.length+m.length:=List.length_append
   have hfl:((s.2++m).flatMap enc).length=(s.2.length+m.length) * i2.size:=by rw[Kgl henc,hlr]
   rw[hlr]
   refine .ro _ _ gb 0 c' (fun j=>cur.getD j undef) (aEs.1 k7).1 (fun j hj _=>⟨_,List.mem_append_right _ (List.mem_singleton.2 rfl),rfl,?_⟩) k9 k10 (fun j dd hj=>?_) (fun j dd hj=>?_)
   ·rw[hfl] at hj;simpa using hj
   ·rw[List.flatMap_append] at hj
    obtain⟨u,f1,_⟩:=k11 j dd hj
    rw[Nat.zero_add,cell_of_row w' gb j cur _ _ k7]
    simp[f1]
   ·rw[List.flatMap_append] at hj
    obtain⟨u,f1,f2⟩:=k11 j dd hj
    simpa [f1] using f2.step (Kqe Z r2)
  ·refine .inr ⟨⟨gb,s.2.length+m.length,c',i2.size,te,false⟩,?_,by simp,rfl,rfl,rfl,by rw[k6];simp⟩
   show(M.h++[_])[al.length]?=_
   rw[hbo.1]
   simp
theorem Kme{o:Oper}{g':G}(h:OpP P N o fr hp g)(hle:g.Le g'):OpP P N o fr hp g':=fun Z w M a hr=>let ⟨v,h1,h2⟩:=h Z w M a hr;⟨v,h1,hle _ _ _ _ h2⟩
theorem G.Le.unt{te:TypeId}{sz:Nat}{s:Tl α}:G.Le (.d (Slt te sz enc s)) (.d (Sl enc s.2)):=fun w O M v hv=>by
 cases hv with
 | d h=>cases h with
  | rt _ _ _ _ _ _ h _=>exact .d h
theorem G.Le.tagN{te:TypeId}{sz:Nat}:G.Le (.d (.v (.slice none 0 0))) (.d (Slt te sz enc (1,[]))):=fun w O M v hv=>by
 rw[vr_v hv]
 exact .d (.rt _ _ _ _ _ _ .nil ⟨_,rfl,fun _=>rfl⟩)
abbrev fTag(l:List α):Nat:=bif l.isEmpty then 0 else 1
section
variable{hpL:List Ob}{ll hl bl:List Nat}{k:Nat}{QF:Fr→List Ob→Prop}
end
end
end Go.Gk
namespace Go.Gk
def updA{α:Type}(k:Int)(j:Nat)(v a:α):α:=if k=(j:Int) then v else a
def updL{α:Type}(k:Int)(v:α):Nat→List α→List α
 | _,[]=>[]
 | j,a :: l=>updA k j v a :: updL k v (j+1) l
section
variable{P:Program}{Γ:TypeId→Option TI}{F N:Nat}{Q:GPost}{fr fr':Fr}{hp:List Ob}{ks:List Kt}
variable{α:Type}{enc:α→List D}{ops:Array Oper}{rest:List Oper}{g:G}
variable{d:Tmp}{op:Op}{ty:TypeId}{pos:String}{after:Array Edge}{gd':Option (Nat×Bool)}
theorem Kmf{t e:TypeId}{k:IntKind}{n d:Nat}(w:World)(hu:P.underlying t=some (.array n e))(he:P.underlying e=some (.int k))(hs:(sizeOf e).run P w=.ok 1 w){xs ys:List Int}{X Y:Array Value}
  (hX:∀ (j:Nat) (x:Int),xs[j]?=some x→X[j]?=some (.int k x)) (hY:∀ (j:Nat) (x:Int),ys[j]?=some x→Y[j]?=some (.int k x)) (hx:xs.length=n) (hy:ys.length=n) :
  (Op.equalIn (d+2) t (.agg X) (.agg Y)).run P w=.ok (decide (xs=ys)) w:=by
 have hpk:P.plainKey e=true:=by unfold Program.plainKey;rw[he]
 rw[Op.equalIn]
 simp only[Sem.run_bind,run_underlying hu,Result.andThen_ok,hs]
 rw[Std.Legacy.Range.forIn_eq_forIn_range']
 simp only[Std.Legacy.Range.size,Nat.sub_zero,Nat.add_sub_cancel,Nat.div_one,Nat.mul_one]
 have key:∀ (m o:Nat),o+m=n→(forIn (m:=Sem) (List.range' o m 1) ((none,()):Option Bool×Unit) fun i r=>do
   let a←part e X i
   let b←part e Y i
   let q←Op.equalIn (d+1) e a b
   if (!q)=true then pure (ForInStep.done (some false,())) else pure (ForInStep.yield (none,()))).run P w=.ok (if xs.drop o=ys.drop o then(none,()) else(some false,())) w:=by
  intro m
  induction m with
  | zero=>
   intro o ho
   rw[List.drop_eq_nil_of_le (by omega),List.drop_eq_nil_of_le (by omega)]
   simp
  | succ m ih=>
   intro o ho
   have hox:o<xs.length:=by omega
   have hoy:o<ys.length:=by omega
   rw[List.range'_succ,List.forIn_cons]
   simp only[Sem.run_bind,run_part_plain w hpk (hX o _ (List.getElem?_eq_getElem hox)),run_part_plain w hpk (hY o _ (List.getElem?_eq_getElem hoy)),Result.andThen_ok,run_equalIn_int w d e k k _ _ he]
   have e1:xs.drop o=xs[o] :: xs.drop (o+1):=List.drop_eq_getElem_cons hox
   have e2:ys.drop o=ys[o] :: ys.drop (o+1):=List.drop_eq_getElem_cons hoy
   by_cases hq:xs[o]=ys[o]
   ·simp only[hq,beq_self_eq_true,Bool.not_true,Bool.false_eq_true,if_false,Sem.run_pure,Result.andThen_ok]
    rw[ih (o+1) (by omega)]
    have:(xs.drop (o+1)=ys.drop (o+1))=(xs.drop o=ys.drop o):=propext ⟨fun h=>by rw[e1,e2,hq,h],fun h=>by rw[e1,e2] at h;exact(List.cons.inj h).2⟩
    simp only[this]
   ·have:¬ xs.drop o=ys.drop o:=fun h=>by rw[e1,e2] at h;exact hq (List.cons.inj h).1
    rw[if_neg this]
    simp only[beq_eq_false_iff_ne.2 hq,Bool.not_false,if_true,Sem.run_pure,Result.andThen_ok]
 have k0:=key n 0 (by omega)
 simp only[List.drop_zero] at k0
 rw[k0]
 by_cases h:xs=ys
 ·simp[h]
 ·simp[h]
theorem Kmg{w:World}{O:Ow}{M:Mp}{k:IntKind}{l:List Int}{xs:List G}{v:Value}(hl:xs=l.map fun z=>.d (.v (.int k z)))(h:VR w O M (.agg xs) v):∃ X,v=.agg X∧∀ (j:Nat) (x:Int),l[j]?=some x→X[j]?=some (.int k x):=by
 subst hl
 cases h with
 | agg hl ih=>
  rename_i X
  refine⟨X,rfl,fun j x hj=>?_⟩
  have hlt:j<X.size:=by rw[hl];simpa using (gEs.1 hj).1
  have e:X[j]?=some X[j]:=Array.getElem?_eq_getElem hlt
  have:=ih j (.d (.v (.int k x))) X[j] (by rw[gMp,hj];rfl) e
  rw[e,vr_v this]
def Rn(P:Program)(F N:Nat)(Q:GPost)(c:Code)(ks:List Kt):Nat→Fr→List Ob→Prop
 | 0=>fun _ _=>False
 | n+1=>fun fr hp=>St.holds P F N Q (.code c (.mid (Rn P F N Q c ks n) :: ks)) fr hp
end
end Go.Gk
namespace Go.Gk
def pf(ρ:List Nat)(i:Nat):Nat:=ρ.getD i i
def prmB(ρ σ:List Nat)(n0 n:Nat):Bool:=(List.range n).all (fun i=>Nat.blt (pf ρ i) n&&Nat.blt (pf σ i) n&&Nat.beq (pf σ (pf ρ i)) i&&Nat.beq (pf ρ (pf σ i)) i)&&(List.range n0).all fun i=>Nat.beq (pf ρ i) i
def prmObs(ρ σ:List Nat)(hp:List Ob):List Ob:=(List.range hp.length).map fun j=>(hp.getD (pf σ j) .dead).ren (pf ρ)
def ocat{α:Type}(f:Nat→Option (List α)):List Nat→Option (List α)
 | []=>some []
 | i :: r=>match f i with
  | some a=>match ocat f r with
   | some b=>some (a++b)
   | none=>none
  | none=>none
def bxOf(bx:List (Nat×List Nat))(k:Nat):List Nat:=match bx with
 | []=>[]
 | e :: r=>bif Nat.beq e.1 k then e.2 else bxOf r k
def bldSt(Γ:TypeId→Option TI)(fr:Fr)(xs:List Nat):Op→Option G
 | .build t parts=>match Γ t with
  | some ⟨.struct fs,a,b,z⟩=>bif (fs.toList.all fun f=>(Γ f.type).isSome)&&(z.cells.toList.all (·.oneCell')) then
    (evParts fr parts.toList).bind fun pg=>(fillG (placesG Γ fs) (zeroX xs ⟨.struct fs,a,b,z⟩) pg).map .agg
   else none
  | _=>none
 | _=>none
def xstep(Γ:TypeId→Option TI)(N:Nat)(hpL:List Ob)(ll:List Nat)(bx:List (Nat×List Nat))(full:Array Oper)(k:Nat)(fr:Fr)(o:Oper):Option Fr:=match o with
 | ⟨some d,.build t parts,ty,pos,after,none⟩=>bif Nat.blt d N then(bldSt Γ (fr.only (Oper.looksAt full ⟨some d,.build t parts,ty,pos,after,none⟩)) (bxOf bx k) (.build t parts)).map fun g=>(d,g) :: fr else none
 | _=>estep Γ N hpL ll [] full k fr o
def deadB(hpL:List Ob)(id:Nat):Bool:=match hpL[id]? with
 | some o=>!o.live
 | none=>true
def hst(Γ:TypeId→Option TI)(N:Nat)(hpL:List Ob)(full:Array Oper)(fr:Fr)(hp:List Ob):Oper→Option (Fr×List Ob)
 | ⟨some d,.box t x,ty,pos,after,none⟩=>bif Nat.blt d N then((fr.only (Oper.looksAt full ⟨some d,.box t x,ty,pos,after,none⟩)).ev x).bind fun g=>(cellsG g).bind fun gs=>bif gs.all G.one then some ((d,.ptr hp.length 0) :: fr,hp++[.box t gs]) else none else none
 | ⟨some d,.buildSlice t len parts,ty,pos,after,none⟩=>match Γ t with
  | some ⟨.slice e,_,_,_⟩=>match Γ e with
   | some i2=>bif Nat.blt d N&&(i2.zero.cells.toList.all (·.oneCell'))&&Nat.blt 0 i2.zero.cells.size&&Nat.ble (len * i2.size) 16777216&&Nat.ble len 16777216 then
     (evParts (fr.only (Oper.looksAt full ⟨some d,.buildSlice t len parts,ty,pos,after,none⟩)) parts.toList).bind fun pg=>(fillG (fun i=>some (i * i2.size,i2.size)) (zerosG i2 len) pg).bind fun gs=>(toDs gs).bind fun ds=>some ((d,.sl hp.length len) :: fr,hp++[.row e i2.size len ds])
    else none
   | none=>none
  | _=>none
 | ⟨none,.store t x y,ty,pos,after,none⟩=>match Γ t with
  | some i=>match (fr.only (Oper.looksAt full ⟨none,.store t x y,ty,pos,after,none⟩)).ev x with
   | some (.ptr id off)=>match hp[id]? with
    | some (.box tb gs)=>((fr.only (Oper.looksAt full ⟨none,.store t x y,ty,pos,after,none⟩)).ev y).bind fun g=>(cellsG g).bind fun new=>
      bif new.all G.one&&Nat.beq new.length i.size&&Nat.ble (off+new.length) gs.length&&deadB hpL id then some (fr,hp.set id (.box tb (setAt gs off new))) else none
    | _=>none
   | _=>none
  | none=>none
 | _=>none
def anyR(Γ:TypeId→Option TI)(N:Nat)(hpL:List Ob)(ll hl:List Nat)(bx:List (Nat×List Nat))(ops:Array Oper):Nat→Array Bool→Fr→List Ob→Option (List (Fr×List Ob))
 | 0,listed,fr,hp=>match Region.ready .any ops listed with
  | []=>some [(fr,hp)]
  | _ :: _=>none
 | fuel+1,listed,fr,hp=>match Region.ready .any ops listed with
  | []=>some [(fr,hp)]
  | i0 :: r=>match (i0 :: r).find? fun i=>!(inL hl i) with
   | some i=>match ops[i]? with
    | none=>none
    | some o=>bif Region.free .any ops listed i then match xstep Γ N hpL ll bx ops i fr o with
     | some fr'=>anyR Γ N hpL ll hl bx ops fuel (listed.setIfInBounds i true) fr' hp
     | none=>none
     else none
   | none=>ocat (fun i=>match ops[i]? with
     | none=>none
     | some o=>match hst Γ N hpL ops fr hp o with
      | some s=>anyR Γ N hpL ll hl bx ops fuel (listed.setIfInBounds i true) s.1 s.2
      | none=>none) (i0 :: r)
section
variable{P:Program}{Γ:TypeId→Option TI}{F N:Nat}{Q:GPost}{fr fr':Fr}{hp hp' hpL:List Ob}{ks:List Kt}{ll hl:List Nat}{bx:List (Nat×List Nat)}
variable{ops:Array Oper}
def LeafOk(n0:Nat)(s:Fr×List Ob)(p:List Nat×List Nat)(fr0:Fr)(hp0:List Ob):Prop:=
 prmB p.1 p.2 n0 s.2.length=true∧prmObs p.1 p.2 s.2=hp0∧fr0.map (fun e=>(Fr.get s.1 e.1).map (G.ren (pf p.1)))=fr0.map fun e=>some e.2
def leafN(n0:Nat)(T:List Nat)(s:Fr×List Ob)(p:List Nat×List Nat):Bool×List (Option G)×List Ob:=(prmB p.1 p.2 n0 s.2.length,T.map fun t=>(Fr.get s.1 t).map (G.ren (pf p.1)),prmObs p.1 p.2 s.2)
def leavesN(n0:Nat)(T:List Nat):List (Fr×List Ob)→List (List Nat×List Nat)→List (Bool×List (Option G)×List Ob)
 | [],_=>[]
 | s :: ss,p :: ps=>leafN n0 T s p :: leavesN n0 T ss ps
 | _ :: _,[]=>[(false,[],[])]
variable{fop:Operand}{args:Array Operand}{ts:Array TypeId}{f:FuncId}{g1 g2 gs gs':List G}
def D.isV:D→Bool
 | .v _=>true
 | _=>false
end
section
variable{P:Program}{Γ:TypeId→Option TI}{F N:Nat}{Q:GPost}{fr fr':Fr}{hp hp':List Ob}{ks:List Kt}
variable{K W:Type}[BEq K][KLt K]{kv:K→Value}{ops:Array Oper}{rest:List Oper}{g:G}
variable{d:Tmp}{op:Op}{ty:TypeId}{pos:String}{after:Array Edge}{gd:Option (Nat×Bool)}
end
end Go.Gk
namespace Go.Gk
def hdG(k:Option Nat)(id:Nat):G:=match k with
 | some off=>.ptr id off
 | none=>.map id
def Ar.ob:Ar→Ob
 | .map _ agg es=>.map agg es none
 | .box _ ty ds=>.box ty (ds.map .d)
 | .row _ ty sz n ds=>.row ty sz n ds
theorem Ar.ob_live(a:Ar):a.ob.live=true:=by cases a<;>rfl
theorem Ar.ob_bag(a:Ar):a.ob.isBag=false:=by cases a<;>rfl
theorem ArR.ob{w:World}{O:Ow}{M M':Mp}{a:Ar}(h:ArR w O M a)(hnr:a.isRow=false):∃ x:Tg,M.h[a.t]?=some (some x)∧x.sz=0∧ObR w O M' a.ob (some (x.b,0)):=by
 cases a with
 | map t agg es=>exact let ⟨x,e1,e2,e3⟩:=h;⟨x,e1,e2,e3⟩
 | box t ty ds=>
  obtain⟨x,e1,e2,cs,e3,e4,e5⟩:=h
  refine⟨x,e1,e2,cs,e3,by simp[e4],fun j g hg=>?_⟩
  rw[gMp] at hg
  obtain⟨d,hd,rfl⟩:=oMs.1 hg
  obtain⟨v,f1,f2⟩:=e5 j d hd
  exact⟨v,f1,f2.one,.d f2⟩
 | row _ _ _ _ _=>cases hnr
theorem RelH.lend{Z:Env}{hp:List Ob}{M:Mp}{w:World}(hr:RelH Z hp M w){bg:Nat}{al:List Bool}{ar ar':List Ar}{lt:List (Nat×Nat)}{a:Ar}(hbag:hp[bg]?=some (.bag al ar lt))(hperm:ar.Perm (a :: ar'))(hnr:a.isRow=false) :
  ∃ x:Tg,M.h[a.t]?=some (some x)∧RelH Z ((hp.set bg (.bag al ar' ((a.t,hp.length) :: lt)))++[a.ob]) (M.app [some (x.b,0)]) w∧own ((hp.set bg (.bag al ar' ((a.t,hp.length) :: lt)))++[a.ob]) (M.app [some (x.b,0)])=own hp M:=by
 obtain⟨hbm,q1,q2,q3,q4,q5,q6⟩:=hr.bag_none hbag
 have hbl:bg<hp.length:=(gEs.1 hbag).1
 have hmem:a∈ar:=hperm.mem_iff.2 (mCs ..)
 obtain⟨x,hx,hxz,hxo⟩:=(q4 a hmem).1.ob (M':=M) hnr
 refine⟨x,hx,?_⟩
 have hno:¬ obOwn hp M x.b:=fun h=>let ⟨id,h1⟩:=hr.bags.lnd bg al ar lt hbag a.t x hx h;(q4 a hmem).2.1 id h1
 have hpw:(a :: ar').Pairwise (fun a a'=>a.t≠a'.t):=(hperm.pairwise_iff fun h=>Ne.symm h).1 q5
 have hcase:∀ (i:Nat) (o:Ob),((hp.set bg (.bag al ar' ((a.t,hp.length) :: lt)))++[a.ob])[i]?=some o→(i≠bg∧i<hp.length∧hp[i]?=some o)∨(i=bg∧o=.bag al ar' ((a.t,hp.length) :: lt))∨(i=hp.length∧o=a.ob):=fun i o h=>by
  by_cases hi:i<hp.length
  ·rw[gAl (by simpa using hi)] at h
   by_cases hb:bg=i
   ·subst hb;rw[gSs hbl] at h;cases h;exact .inr (.inl ⟨rfl,rfl⟩)
   ·rw[gSn hb] at h;exact .inl ⟨Ne.symm hb,hi,h⟩
  ·rw[gAr (by simpa using hi)] at h
   simp only[List.length_set] at h
   have:i - hp.length=0:=by
    have:=(gEs.1 h).1
    simp at this;omega
   rw[this] at h
   simp at h
   exact .inr (.inr ⟨by omega,h.symm⟩)
 have hMo:∀ i,i<M.l.length→(M.app [some (x.b,0)]).l[i]?=M.l[i]?:=fun i hi=>gAl hi
 have hMn:(M.app [some (x.b,0)]).l[hp.length]?=some (some (x.b,0)):=by rw[←hr.len];simp
 have hob:∀ b,obOwn ((hp.set bg (.bag al ar' ((a.t,hp.length) :: lt)))++[a.ob]) (M.app [some (x.b,0)]) b ↔ obOwn hp M b∨b=x.b:=fun b=>by
  constructor
  ·rintro⟨i,o,c,h1,h2,h3⟩
   rcases hcase i o h1 with⟨_,hi,h⟩ | ⟨rfl,rfl⟩ | ⟨rfl,rfl⟩
   ·exact .inl ⟨i,o,c,h,h2,by rw[←hMo i (by rw[hr.len];exact hi)];exact h3⟩
   ·rw[hMo _ (by rw[hr.len];exact hbl),hbm] at h3;cases h3
   ·rw[hMn] at h3;cases h3;exact .inr rfl
  ·rintro(⟨i,o,c,h1,h2,h3⟩ | rfl)
   ·have hi:i<hp.length:=(gEs.1 h1).1
    have hne:bg≠i:=fun e=>by subst e;rw[hbm] at h3;cases h3
    exact⟨i,o,c,by rw[gAl (by simpa using hi),gSn hne];exact h1,h2,by rw[hMo i (by rw[hr.len];exact hi)];exact h3⟩
   ·exact⟨hp.length,a.ob,0,by rw[gAr (by simp)];simp,a.ob_live,hMn⟩
 have hg:hasBag hp:=⟨bg,al,ar,lt,hbag⟩
 have hg':hasBag ((hp.set bg (.bag al ar' ((a.t,hp.length) :: lt)))++[a.ob]):=⟨bg,al,ar',_,by rw[gAl (by simpa using hbl),gSs hbl]⟩
 have hown:own ((hp.set bg (.bag al ar' ((a.t,hp.length) :: lt)))++[a.ob]) (M.app [some (x.b,0)])=own hp M:=Kpy (fun b=>by
  constructor
  ·rintro(h | ⟨_,h⟩)
   ·rcases(hob b).1 h with h | rfl
    ·exact .inl h
    ·exact .inr ⟨hg,x,mOg hx,rfl⟩
   ·exact .inr ⟨hg,h⟩
  ·rintro(h | ⟨_,h⟩)
   ·exact .inl ((hob b).2 (.inl h))
   ·exact .inr ⟨hg',h⟩) rfl ⟨fun _=>hg,fun _=>hg'⟩
 have hownZ:ownZ Z ((hp.set bg (.bag al ar' ((a.t,hp.length) :: lt)))++[a.ob]) (M.app [some (x.b,0)])=ownZ Z hp M:=by unfold ownZ;rw[hown]
 have hbags:∀ (i:Nat) (al1:List Bool) (ar1:List Ar) (lt1:List (Nat×Nat)),((hp.set bg (.bag al ar' ((a.t,hp.length) :: lt)))++[a.ob])[i]?=some (.bag al1 ar1 lt1)→i=bg∧lt1=(a.t,hp.length) :: lt:=fun i al1 ar1 lt1 h=>by
  rcases hcase i _ h with⟨h1,_,h2⟩ | ⟨h1,h2⟩ | ⟨_,h2⟩
  ·exact absurd (hr.bags.one _ _ _ _ _ _ _ _ h2 hbag) h1
  ·cases h2;exact⟨h1,rfl⟩
  ·have:=a.ob_bag;rw[←h2] at this;cases this
 refine⟨⟨by simp[hr.len],fun i o m h1 h2=>?_,fun b hb hz=>hr.apart b (by rw[hown] at hb;exact hb) hz,hr.old,hr.amb,fun i j oi oj b c c' hi hj li lj mi mj=>?_,⟨fun y hy=>⟨(hr.bags.tgs y hy).1,fun hz h=>?_⟩,fun i j al1 al2 ar1 ar2 lt1 lt2 hi hj=>(hbags i _ _ _ hi).1.trans (hbags j _ _ _ hj).1.symm,fun i al1 ar1 lt1 hi t y hy h=>?_,hr.bags.hds⟩⟩,hown⟩
 ·rw[hownZ]
  rcases hcase i o h1 with⟨hne,hi,h⟩ | ⟨rfl,rfl⟩ | ⟨rfl,rfl⟩
  ·rw[hMo i (by rw[hr.len];exact hi)] at h2
   have:=hr.obj i o m h h2
   exact this.move (k:=M.l.length) (.refl _ _) hMo this.bel (fun _ _ _ _=>rfl) (fun _ _ _ _=>⟨rfl,fun _ _ _=>rfl⟩)
  ·rw[hMo _ (by rw[hr.len];exact hbl),hbm] at h2
   cases h2
   refine⟨q1,q2,q3,fun a1 ha1=>⟨((q4 a1 (hperm.mem_iff.2 (mCo _ ha1))).1).same rfl,fun id hm=>?_,(q4 a1 (hperm.mem_iff.2 (mCo _ ha1))).2.2⟩,(List.pairwise_cons.1 hpw).2,fun t id hm=>?_⟩
   ·rcases List.mem_cons.1 hm with e | hm
    ·exact(List.pairwise_cons.1 hpw).1 a1 ha1 (congrArg Prod.fst e).symm
    ·exact(q4 a1 (hperm.mem_iff.2 (mCo _ ha1))).2.1 id hm
   ·rcases List.mem_cons.1 hm with e | hm
    ·cases e;exact⟨x,0,hx,hxz,hMn⟩
    ·obtain⟨y,c,e1,e2,e3⟩:=q6 t id hm
     exact⟨y,c,e1,e2,(hMo id (Mp.lt e3)).trans e3⟩
  ·rw[hMn] at h2
   cases h2
   exact hxo.move (k:=M.l.length) (.refl _ _) hMo hxo.bel (fun _ _ _ _=>rfl) (fun _ _ _ e=>by have:=a.ob_bag;rw[e] at this;cases this)
 ·rcases hcase i oi hi with⟨_,hil,hi⟩ | ⟨rfl,rfl⟩ | ⟨rfl,rfl⟩
  ·rw[hMo i (by rw[hr.len];exact hil)] at mi
   rcases hcase j oj hj with⟨_,hjl,hj⟩ | ⟨rfl,rfl⟩ | ⟨rfl,rfl⟩
   ·rw[hMo j (by rw[hr.len];exact hjl)] at mj
    exact hr.inj i j oi oj b c c' hi hj li lj mi mj
   ·rw[hMo _ (by rw[hr.len];exact hbl),hbm] at mj;cases mj
   ·rw[hMn] at mj;cases mj;exact absurd ⟨i,oi,c,hi,li,mi⟩ hno
  ·rw[hMo _ (by rw[hr.len];exact hbl),hbm] at mi;cases mi
  ·rw[hMn] at mi
   cases mi
   rcases hcase j oj hj with⟨_,hjl,hj⟩ | ⟨rfl,rfl⟩ | ⟨rfl,rfl⟩
   ·rw[hMo j (by rw[hr.len];exact hjl)] at mj
    exact absurd ⟨j,oj,c',hj,lj,mj⟩ hno
   ·rw[hMo _ (by rw[hr.len];exact hbl),hbm] at mj;cases mj
   ·rfl
 ·rcases(hob _).1 h with h | e
  ·exact(hr.bags.tgs y hy).2 hz h
  ·obtain⟨t,ht⟩:=List.getElem?_of_mem hy
   have ht':M.h[t]?=some (some y):=ht
   have:=hr.bags.hds a.t t x y hx ht' hxz e
   subst this
   rw[hx] at ht'
   cases ht'
   omega
 ·obtain⟨_,rfl⟩:=hbags i _ _ _ hi
  have hy':M.h[t]?=some (some y):=hy
  rcases(hob _).1 h with h | e
  ·obtain⟨id,h1⟩:=hr.bags.lnd bg al ar lt hbag t y hy' h
   exact⟨id,mCo _ h1⟩
  ·have:=hr.bags.hds a.t t x y hx hy' hxz e
   subst this
   exact⟨hp.length,mCs ..⟩
def Ar.of:Ar→Ob→Prop
 | .map _ agg es,.map agg' es' _=>agg'=agg∧es'=es
 | .box _ ty ds,.box ty' gs=>ty'=ty∧gs=ds.map .d
 | _,_=>False
theorem ArR.of_ob{w:World}{O:Ow}{M:Mp}{a:Ar}{o:Ob}{x:Tg}{c:Nat}(ha:a.of o)(h:ObR w O M o (some (x.b,c)))(hx:M.h[a.t]?=some (some x))(hz:x.sz=0):ArR w O M a:=by
 cases a with
 | map t agg es=>
  cases o with
  | map agg' es' st=>
   obtain⟨rfl,rfl⟩:=ha
   obtain⟨ms,cl,es',h1,p1,p2,p3,h2⟩:=h
   exact⟨x,hx,hz,ms,cl,es',h1,p1,p2,(fun raw e=>by cases e),h2⟩
  | _=>exact ha.elim
 | box t ty ds=>
  cases o with
  | box ty' gs=>
   obtain⟨rfl,rfl⟩:=ha
   obtain⟨cs,h1,h2,h3⟩:=h
   refine⟨x,hx,hz,cs,h1,by simpa using h2,fun j d hd=>?_⟩
   obtain⟨v,e1,e2,e3⟩:=h3 j (.d d) (by rw[gMp,hd];rfl)
   refine⟨v,e1,?_⟩
   cases e3 with
   | d h=>exact h
  | _=>exact ha.elim
 | row _ _ _ _ _=>cases o<;>exact ha.elim
theorem RelH.back{Z:Env}{hp:List Ob}{M:Mp}{w:World}(hr:RelH Z hp M w){bg id:Nat}{al:List Bool}{ar:List Ar}{a:Ar}{o:Ob}(hbag:hp[bg]?=some (.bag al ar [(a.t,id)]))(ho:hp[id]?=some o)(hl:o.live=true)(hoa:a.of o) :
  RelH Z ((hp.set id .dead).set bg (.bag al (a :: ar) [])) M w∧own ((hp.set id .dead).set bg (.bag al (a :: ar) [])) M=own hp M:=by
 obtain⟨hbm,q1,q2,q3,q4,q5,q6⟩:=hr.bag_none hbag
 have hbl:bg<hp.length:=(gEs.1 hbag).1
 have hid:id<hp.length:=(gEs.1 ho).1
 obtain⟨x,c0,hx,hxz,hMx⟩:=q6 a.t id (mCs ..)
 have hcase:∀ (i:Nat) (o1:Ob),((hp.set id .dead).set bg (.bag al (a :: ar) []))[i]?=some o1→(i≠bg∧i≠id∧hp[i]?=some o1)∨(i=bg∧o1=.bag al (a :: ar) [])∨(i≠bg∧o1=.dead):=fun i o1 h=>by
  by_cases hb:bg=i
  ·subst hb;rw[gSs (by simpa using hbl)] at h;cases h;exact .inr (.inl ⟨rfl,rfl⟩)
  ·rw[gSn hb] at h
   by_cases hi:id=i
   ·subst hi;rw[gSs hid] at h;cases h;exact .inr (.inr ⟨Ne.symm hb,rfl⟩)
   ·rw[gSn hi] at h;exact .inl ⟨Ne.symm hb,Ne.symm hi,h⟩
 have hob:∀ b,obOwn ((hp.set id .dead).set bg (.bag al (a :: ar) [])) M b→obOwn hp M b∧b≠x.b:=fun b h=>by
  obtain⟨i,o1,c,h1,h2,h3⟩:=h
  rcases hcase i o1 h1 with⟨_,hi,h⟩ | ⟨rfl,rfl⟩ | ⟨_,rfl⟩
  ·exact⟨⟨i,o1,c,h,h2,h3⟩,fun e=>by subst e;exact hi (hr.inj i id o1 o _ c c0 h ho h2 hl h3 hMx)⟩
  ·rw[hbm] at h3;cases h3
  ·cases h2
 have hob2:∀ b,obOwn hp M b→obOwn ((hp.set id .dead).set bg (.bag al (a :: ar) [])) M b∨b=x.b:=fun b h=>by
  obtain⟨i,o1,c,h1,h2,h3⟩:=h
  have hne:bg≠i:=fun e=>by subst e;rw[hbm] at h3;cases h3
  by_cases hi:id=i
  ·subst hi;rw[hMx] at h3;cases h3;exact .inr rfl
  ·exact .inl ⟨i,o1,c,by rw[gSn hne,gSn hi];exact h1,h2,h3⟩
 have hg:hasBag hp:=⟨bg,al,ar,_,hbag⟩
 have hg':hasBag ((hp.set id .dead).set bg (.bag al (a :: ar) [])):=⟨bg,al,_,_,gSs (by simpa using hbl)⟩
 have hown:own ((hp.set id .dead).set bg (.bag al (a :: ar) [])) M=own hp M:=Kpy (fun b=>by
  constructor
  ·rintro(h | ⟨_,h⟩)
   ·exact .inl (hob b h).1
   ·exact .inr ⟨hg,h⟩
  ·rintro(h | ⟨_,h⟩)
   ·rcases hob2 b h with h | rfl
    ·exact .inl h
    ·exact .inr ⟨hg',x,mOg hx,rfl⟩
   ·exact .inr ⟨hg',h⟩) rfl ⟨fun _=>hg,fun _=>hg'⟩
 have hownZ:ownZ Z ((hp.set id .dead).set bg (.bag al (a :: ar) [])) M=ownZ Z hp M:=by unfold ownZ;rw[hown]
 have hbags:∀ (i:Nat) (al1:List Bool) (ar1:List Ar) (lt1:List (Nat×Nat)),((hp.set id .dead).set bg (.bag al (a :: ar) []))[i]?=some (.bag al1 ar1 lt1)→i=bg:=fun i al1 ar1 lt1 h=>by
  rcases hcase i _ h with⟨h1,_,h2⟩ | ⟨h1,h2⟩ | ⟨_,h2⟩
  ·exact absurd (hr.bags.one _ _ _ _ _ _ _ _ h2 hbag) h1
  ·exact h1
  ·cases h2
 refine⟨⟨by simp[hr.len],fun i o1 m h1 h2=>?_,fun b hb hz=>hr.apart b (by rw[hown] at hb;exact hb) hz,hr.old,hr.amb,fun i j oi oj b c c' hi hj li lj mi mj=>?_,⟨fun y hy=>⟨(hr.bags.tgs y hy).1,fun hz h=>(hr.bags.tgs y hy).2 hz (hob _ h).1⟩,fun i j al1 al2 ar1 ar2 lt1 lt2 hi hj=>(hbags i _ _ _ hi).trans (hbags j _ _ _ hj).symm,fun i al1 ar1 lt1 hi t y hy h=>?_,hr.bags.hds⟩⟩,hown⟩
 ·rw[hownZ]
  rcases hcase i o1 h1 with⟨_,hi,h⟩ | ⟨rfl,rfl⟩ | ⟨_,rfl⟩
  ·exact hr.obj i o1 m h h2
  ·rw[hbm] at h2
   cases h2
   refine⟨q1,q2,q3,fun a1 ha1=>⟨?_,fun id hm=>by simp at hm,fun hrow=>?_⟩,List.pairwise_cons.2 ⟨fun a1 ha1 e=>(q4 a1 ha1).2.1 id (by rw[e];exact mCs ..),q5⟩,fun t id hm=>by simp at hm⟩
   rotate_left
   ·rcases List.mem_cons.1 ha1 with rfl | ha1
    ·cases a1<;>first | (cases hrow;done) | (cases o<;>exact hoa.elim)
    ·exact(q4 a1 ha1).2.2 hrow
   rcases List.mem_cons.1 ha1 with rfl | ha1
   ·exact ArR.of_ob hoa (hr.obj id o _ ho hMx) hx hxz
   ·exact(q4 a1 ha1).1
  ·cases m<;>trivial
 ·have key:∀ (i:Nat) (o1:Ob) (c:Nat),((hp.set id .dead).set bg (.bag al (a :: ar) []))[i]?=some o1→o1.live=true→M.l[i]?=some (some (b,c))→hp[i]?=some o1:=fun i o1 c e1 e2 e3=>by
   rcases hcase i o1 e1 with⟨_,_,h⟩ | ⟨rfl,rfl⟩ | ⟨_,rfl⟩
   ·exact h
   ·rw[hbm] at e3;cases e3
   ·cases e2
  exact hr.inj i j oi oj b c c' (key i oi c hi li mi) (key j oj c' hj lj mj) li lj mi mj
 ·exfalso
  obtain⟨h1,h2⟩:=hob _ h
  obtain⟨id',h3⟩:=hr.bags.lnd bg al ar _ hbag t y hy h1
  simp at h3
  obtain⟨rfl,rfl⟩:=h3
  rw[hx] at hy
  cases hy
  exact h2 rfl
theorem RelH.reperm{Z:Env}{hp:List Ob}{M:Mp}{w:World}(hr:RelH Z hp M w){bg:Nat}{al:List Bool}{ar arn:List Ar}{lt:List (Nat×Nat)}(hbag:hp[bg]?=some (.bag al ar lt))(hperm:arn.Perm ar) :
  RelH Z (hp.set bg (.bag al arn lt)) M w∧own (hp.set bg (.bag al arn lt)) M=own hp M:=by
 obtain⟨hbm,q1,q2,q3,q4,q5,q6⟩:=hr.bag_none hbag
 have hbl:bg<hp.length:=(gEs.1 hbag).1
 have hcase:∀ (i:Nat) (o:Ob),(hp.set bg (.bag al arn lt))[i]?=some o→(i≠bg∧hp[i]?=some o)∨(i=bg∧o=.bag al arn lt):=fun i o h=>by
  by_cases hb:bg=i
  ·subst hb;rw[gSs hbl] at h;cases h;exact .inr ⟨rfl,rfl⟩
  ·rw[gSn hb] at h;exact .inl ⟨Ne.symm hb,h⟩
 have hob:∀ b,obOwn (hp.set bg (.bag al arn lt)) M b ↔ obOwn hp M b:=fun b=>by
  constructor
  ·rintro⟨i,o,c,h1,h2,h3⟩
   rcases hcase i o h1 with⟨_,h⟩ | ⟨rfl,rfl⟩
   ·exact⟨i,o,c,h,h2,h3⟩
   ·rw[hbm] at h3;cases h3
  ·rintro⟨i,o,c,h1,h2,h3⟩
   have hne:bg≠i:=fun e=>by subst e;rw[hbm] at h3;cases h3
   exact⟨i,o,c,by rw[gSn hne];exact h1,h2,h3⟩
 have hg:hasBag hp:=⟨bg,al,ar,lt,hbag⟩
 have hg':hasBag (hp.set bg (.bag al arn lt)):=⟨bg,al,arn,lt,gSs hbl⟩
 have hown:own (hp.set bg (.bag al arn lt)) M=own hp M:=Kpy (fun b=>⟨fun h=>h.imp (hob b).1 fun ⟨_,h⟩=>⟨hg,h⟩,fun h=>h.imp (hob b).2 fun ⟨_,h⟩=>⟨hg',h⟩⟩) rfl ⟨fun _=>hg,fun _=>hg'⟩
 have hownZ:ownZ Z (hp.set bg (.bag al arn lt)) M=ownZ Z hp M:=by unfold ownZ;rw[hown]
 have hbags:∀ (i:Nat) (al1:List Bool) (ar1:List Ar) (lt1:List (Nat×Nat)),(hp.set bg (.bag al arn lt))[i]?=some (.bag al1 ar1 lt1)→i=bg∧lt1=lt:=fun i al1 ar1 lt1 h=>by
  rcases hcase i _ h with⟨h1,h2⟩ | ⟨h1,h2⟩
  ·exact absurd (hr.bags.one _ _ _ _ _ _ _ _ h2 hbag) h1
  ·cases h2;exact⟨h1,rfl⟩
 refine⟨⟨by simp[hr.len],fun i o m h1 h2=>?_,fun b hb hz=>hr.apart b (by rw[hown] at hb;exact hb) hz,hr.old,hr.amb,fun i j oi oj b c c' hi hj li lj mi mj=>?_,⟨fun y hy=>⟨(hr.bags.tgs y hy).1,fun hz h=>(hr.bags.tgs y hy).2 hz ((hob _).1 h)⟩,fun i j al1 al2 ar1 ar2 lt1 lt2 hi hj=>(hbags i _ _ _ hi).1.trans (hbags j _ _ _ hj).1.symm,fun i al1 ar1 lt1 hi t y hy h=>?_,hr.bags.hds⟩⟩,hown⟩
 ·rw[hownZ]
  rcases hcase i o h1 with⟨_,h⟩ | ⟨rfl,rfl⟩
  ·exact hr.obj i o m h h2
  ·rw[hbm] at h2
   cases h2
   exact⟨q1,q2,q3,fun a ha=>q4 a (hperm.mem_iff.1 ha),(hperm.pairwise_iff fun h=>Ne.symm h).2 q5,q6⟩
 ·have key:∀ (i:Nat) (o1:Ob) (c:Nat),(hp.set bg (.bag al arn lt))[i]?=some o1→o1.live=true→M.l[i]?=some (some (b,c))→hp[i]?=some o1:=fun i o1 c e1 e2 e3=>by
   rcases hcase i o1 e1 with⟨_,h⟩ | ⟨rfl,rfl⟩
   ·exact h
   ·rw[hbm] at e3;cases e3
  exact hr.inj i j oi oj b c c' (key i oi c hi li mi) (key j oj c' hj lj mj) li lj mi mj
 ·obtain⟨_,rfl⟩:=hbags i _ _ _ hi
  exact hr.bags.lnd bg al ar _ hbag t y hy ((hob _).1 h)
section
variable{P:Program}{Γ:TypeId→Option TI}{F N:Nat}{Q:GPost}{fr fr':Fr}{hp hp':List Ob}{ks:List Kt}
variable{ops:Array Oper}{rest:List Oper}{g:G}{α:Type}{enc:α→List D}
theorem Kmh{bg:Nat}{k:Option Nat}{al:List Bool}{ar ar':List Ar}{lt:List (Nat×Nat)}{a:Ar}(t:Nat)(ht:fr.get t=some (.d (.hd k (a.t+1))))(hbag:hp[bg]?=some (.bag al ar lt))(hperm:ar.Perm (a :: ar'))(hnr:a.isRow=false):∀ Z w M a0,Rel Z hp M w fr a0 N→
  ∃ M',Rel Z ((hp.set bg (.bag al ar' ((a.t,hp.length) :: lt)))++[a.ob]) M' w ((t,hdG k hp.length) :: fr) a0 N∧own ((hp.set bg (.bag al ar' ((a.t,hp.length) :: lt)))++[a.ob]) M'=own hp M∧Agr hp.length M M':=by
 intro Z w M a0 hr
 obtain⟨x,hx,r1,r2⟩:=hr.heap.lend hbag hperm hnr
 have hst:Stp w (own hp M) w (own ((hp.set bg (.bag al ar' ((a.t,hp.length) :: lt)))++[a.ob]) (M.app [some (x.b,0)])):=by rw[r2];exact .refl _ _
 have hMo:∀ i,i<M.l.length→(M.app [some (x.b,0)]).l[i]?=M.l[i]?:=fun i hi=>gAl hi
 have hMn:(M.app [some (x.b,0)]).l[hp.length]?=some (some (x.b,0)):=by rw[←hr.heap.len];simp
 refine⟨_,⟨r1,fun t' g hg=>?_,hr.size,hr.defers⟩,r2,⟨by simp[hr.heap.len],fun i hi=>hMo i (by rw[hr.heap.len];exact hi)⟩⟩
 simp only[Fr.get] at hg
 cases hk:Nat.beq t t' with
 | false=>
  rw[hk] at hg
  obtain⟨v,h1,h2⟩:=hr.fr t' g hg
  exact⟨v,h1,h2.step (Kqe Z hst) hMo⟩
 | true=>
  rw[hk] at hg
  have:=nEq hk
  subst this
  cases hg
  obtain⟨v,hv,hvr⟩:=hr.fr t _ ht
  refine⟨v,hv,?_⟩
  cases hvr with
  | d hd=>
   cases hd with
   | hd _ _ _ hd=>
    obtain⟨x',f1,_,rfl⟩:=hd
    have f1':M.h[a.t]?=some (some x'):=f1
    rw[hx] at f1'
    cases f1'
    cases k with
    | some off=>exact .ptr hMn
    | none=>exact .map hMn
def AllHd(fr:Fr)(id:Nat):List (Nat×Option Nat)→Prop
 | []=>True
 | e :: L=>fr.get e.1=some (hdG e.2 id)∧AllHd fr id L
def hdL:List (Nat×Option Nat)→Nat→Fr
 | [],_=>[]
 | e :: L,h=>(e.1,.d (.hd e.2 h)) :: hdL L h
theorem AllHd.at{fr:Fr}{id:Nat}:∀ {L:List (Nat×Option Nat)},AllHd fr id L→∀ {t:Nat} {k:Option Nat},(t,k)∈L→fr.get t=some (hdG k id)
 | e :: L,h,t,k,hm=>by
  rcases List.mem_cons.1 hm with rfl | hm
  ·exact h.1
  exact AllHd.at h.2 hm
theorem Kmi:∀ {L:List (Nat×Option Nat)} {h t:Nat} {g:G},(hdL L h).get t=some g→∃ k,(t,k)∈L∧g=.d (.hd k h)
 | [],h,t,g,hg=>by cases hg
 | e :: L,h,t,g,hg=>by
  simp only[hdL,Fr.get] at hg
  cases hk:Nat.beq e.1 t with
  | true=>
   rw[hk] at hg
   have:=nEq hk
   subst this
   cases hg
   exact⟨e.2,mCs ..,rfl⟩
  | false=>
   rw[hk] at hg
   obtain⟨k,h1,h2⟩:=Kmi hg
   exact⟨k,mCo _ h1,h2⟩
theorem Kmj:∀ {A fr:Fr} {t:Nat} {g:G},Fr.get (A++fr) t=some g→A.get t=some g∨fr.get t=some g
 | [],fr,t,g,h=>.inr h
 | e :: A,fr,t,g,h=>by
  obtain⟨k,g0⟩:=e
  simp only[List.cons_append,Fr.get] at h ⊢
  cases hk:Nat.beq k t with
  | true=>rw[hk] at h;exact .inl h
  | false=>rw[hk] at h;exact Kmj h
theorem Kmk{bg id:Nat}{al:List Bool}{ar:List Ar}{lt:List (Nat×Nat)}{a:Ar}{o:Ob}(L:List (Nat×Option Nat))(ht:AllHd fr id L)(ho:hp[id]?=some o)(hl:o.live=true)(hoa:a.of o)(hat:a.t=al.length)(hbag:hp[bg]?=some (.bag al ar lt))(hsl:hp.all Ob.sole=true):∀ Z w M a0,Rel Z hp M w fr a0 N→
  ∃ M',Rel Z ((hp.set id .dead).set bg (.bag (al++[false]) (a :: ar) lt)) M' w (hdL L (al.length+1)++fr) a0 N∧Stp w (own hp M) w (own ((hp.set id .dead).set bg (.bag (al++[false]) (a :: ar) lt)) M')∧Agr hp.length M M':=by
 intro Z w M a0 hr
 have hid:id<hp.length:=(gEs.1 ho).1
 have hbl:bg<hp.length:=(gEs.1 hbag).1
 have hbm:=(hr.heap.bag_none hbag).1
 have hlen:al.length=M.h.length:=(hr.heap.bag_none hbag).2.1
 obtain⟨b,c,hM⟩:∃ b c,M.l[id]?=some (some (b,c)):=by
  have e:M.l[id]?=some (M.l[id]'(by rw[hr.heap.len];exact hid)):=gGe _
  have:=hr.heap.obj id o _ ho e
  revert this
  rw[e]
  cases M.l[id]'(by rw[hr.heap.len];exact hid) with
  | some p=>exact fun _=>⟨p.1,p.2,rfl⟩
  | none=>
   intro h
   cases a<;>cases o<;>first | exact hoa.elim | exact h.elim
 have hne:id≠bg:=fun e=>by subst e;rw[hbm] at hM;cases hM
 have hob:obOwn hp M b:=⟨id,o,c,ho,hl,hM⟩
 have hcase:∀ (i:Nat) (o1:Ob),((hp.set id .dead).set bg (.bag (al++[false]) (a :: ar) lt))[i]?=some o1→o1=.dead∨(i≠bg∧hp[i]?=some o1)∨(i=bg∧o1=.bag (al++[false]) (a :: ar) lt):=fun i o1 h=>by
  by_cases hi:bg=i
  ·subst hi;rw[gSs (by simpa using hbl)] at h;cases h;exact .inr (.inr ⟨rfl,rfl⟩)
  ·rw[gSn hi] at h
   by_cases hi2:id=i
   ·subst hi2;rw[gSs hid] at h;cases h;exact .inl rfl
   ·rw[gSn hi2] at h;exact .inr (.inl ⟨Ne.symm hi,h⟩)
 have hid1:((hp.set id .dead).set bg (.bag (al++[false]) (a :: ar) lt))[id]?=some .dead:=by rw[gSn (Ne.symm hne),gSs hid]
 have hget:(M.h++[some (⟨b,0,0,0,0,false⟩:Tg)])[al.length]?=some (some ⟨b,0,0,0,0,false⟩):=by rw[hlen];simp
 have hsl0:∀ x:Tg,some x∈M.h→x.b≠b:=fun x hx e=>hr.heap.sole hsl ⟨bg,al,ar,lt,hbag⟩ hx (e▸hob)
 obtain⟨r1,r2,r3⟩:=Kly (hp1:=(hp.set id .dead).set bg (.bag (al++[false]) (a :: ar) lt)) (al0:=al) (ar1:=a :: ar) (w':=w) false (some ⟨b,0,0,0,0,false⟩) hr.heap hbag (by simp) hcase (gSs (by simpa using hbl)) (Nat.le_refl _) rfl rfl rfl (fun _ _ _=>rfl) rfl (fun _ h=>h) (fun y h=>by
   cases h
   refine⟨(fun h=>by cases h),hr.heap.block_ob hob,fun _=>.inl hob,?_,fun x hx (e:x.b=b)=>absurd e (hsl0 x hx),fun t x _ hx (e:x.b=b)=>absurd e (hsl0 x (mOg hx))⟩
   rintro⟨i,o1,c',e1,e2,e3⟩
   rcases hcase i o1 e1 with rfl | ⟨_,e⟩ | ⟨rfl,rfl⟩
   ·cases e2
   ·have hii:=hr.heap.inj i id o1 _ b c' c e ho e2 hl e3 hM
    subst hii
    rw[hid1] at e1
    cases e1;cases e2
   ·rw[hbm] at e3;cases e3) ar (Klw hr.heap hbag) (.inr ⟨a,rfl,hat,fun hst=>by
   have:=ArR.of_ob (M:=⟨M.l,M.h++[some ⟨b,0,0,0,0,false⟩]⟩) (x:=⟨b,0,0,0,0,false⟩) (c:=c) hoa (ObR.move (M:=M) (k:=M.l.length) (M':=⟨M.l,M.h++[some ⟨b,0,0,0,0,false⟩]⟩) (Kqe Z hst) (fun _ _=>rfl) (hr.heap.obj id o _ ho hM) (hr.heap.obj id o _ ho hM).bel (fun _ _ _ _=>rfl) (fun _ _ _ e=>by subst e;cases a<;>exact hoa.elim)) (by rw[hat];exact hget) rfl
   exact this,fun hrow=>by cases a<;>first | (cases hrow;done) | (cases o<;>exact hoa.elim)⟩)
 refine⟨_,⟨r1,fun t' g h=>?_,hr.size,hr.defers⟩,r2,r3⟩
 rcases Kmj h with h | h
 ·obtain⟨k,hk,rfl⟩:=Kmi h
  obtain⟨v,hv,hvr⟩:=hr.fr t' _ (ht.at hk)
  refine⟨v,hv,.d (.hd _ _ _ ⟨_,hget,.inl rfl,?_⟩)⟩
  cases k with
  | some off=>
   cases hvr with
   | ptr hM'=>rw[hM] at hM';cases hM';rfl
  | none=>
   cases hvr with
   | map hM'=>rw[hM] at hM';cases hM';rfl
 ·obtain⟨u,h1,h2⟩:=hr.fr t' g h
  exact⟨u,h1,VR.step (M:=M) (M':=⟨M.l,M.h++[_]⟩) (Kqe Z r2) (fun _ _=>rfl) h2⟩
theorem Kml{bg:Nat}{al:List Bool}{ar arn:List Ar}{lt:List (Nat×Nat)}(hbag:hp[bg]?=some (.bag al ar lt))(hperm:arn.Perm ar):∀ Z w M a0,Rel Z hp M w fr a0 N→
  ∃ M',Rel Z (hp.set bg (.bag al arn lt)) M' w fr a0 N∧Stp w (own hp M) w (own (hp.set bg (.bag al arn lt)) M')∧Agr hp.length M M':=fun Z w M a0 hr=>by
 obtain⟨r1,r2⟩:=hr.heap.reperm hbag hperm
 have hst:Stp w (own hp M) w (own (hp.set bg (.bag al arn lt)) M):=by rw[r2];exact .refl _ _
 exact⟨M,⟨r1,fun t' g hg=>let ⟨v,h1,h2⟩:=hr.fr t' g hg;⟨v,h1,h2.step (Kqe Z hst) (fun _ _=>rfl)⟩,hr.size,hr.defers⟩,hst,⟨Nat.le_of_eq hr.heap.len.symm,fun _ _=>rfl⟩⟩
theorem Kmm{hp1 hp2:List Ob}{fr1 fr2:Fr}(hl:hp.length≤hp1.length)(h1:∀ Z w M a0,Rel Z hp M w fr a0 N→∃ M',Rel Z hp1 M' w fr1 a0 N∧Stp w (own hp M) w (own hp1 M')∧Agr hp.length M M')
  (h2:∀ Z w M a0,Rel Z hp1 M w fr1 a0 N→∃ M',Rel Z hp2 M' w fr2 a0 N∧Stp w (own hp1 M) w (own hp2 M')∧Agr hp1.length M M'):∀ Z w M a0,Rel Z hp M w fr a0 N→∃ M',Rel Z hp2 M' w fr2 a0 N∧Stp w (own hp M) w (own hp2 M')∧Agr hp.length M M':=fun Z w M a0 hr=>
 let ⟨M1,a1,a2,a3⟩:=h1 Z w M a0 hr;let ⟨M2,b1,b2,b3⟩:=h2 Z w M1 a0 a1;⟨M2,b1,a2.trans b2,a3.trans b3 hl⟩
theorem Kmn{bg id:Nat}{al:List Bool}{ar arn:List Ar}{lt:List (Nat×Nat)}{a:Ar}{o:Ob}{hp2:List Ob}(L:List (Nat×Option Nat))(ht:AllHd fr id L)(ho:hp[id]?=some o)(hl:o.live=true)(hoa:a.of o)(hat:a.t=al.length)(hbag:hp[bg]?=some (.bag al ar lt))(hperm:arn.Perm (a :: ar))(h2:(hp.set id .dead).set bg (.bag (al++[false]) arn lt)=hp2)(hsl:hp.all Ob.sole=true):∀ Z w M a0,Rel Z hp M w fr a0 N→
  ∃ M',Rel Z hp2 M' w (hdL L (al.length+1)++fr) a0 N∧Stp w (own hp M) w (own hp2 M')∧Agr hp.length M M':=by
 subst h2
 have hbl:bg<hp.length:=(gEs.1 hbag).1
 have:=Kml (N:=N) (fr:=hdL L (al.length+1)++fr) (hp:=(hp.set id .dead).set bg (.bag (al++[false]) (a :: ar) lt)) (bg:=bg) (arn:=arn) (gSs (by simpa using hbl)) hperm
 rw[List.set_set] at this
 exact Kmm (by simp) (Kmk L ht ho hl hoa hat hbag hsl) this
end
end Go.Gk
namespace Go.Gk
def hGet{α:Type}(l:List (Nat×α)):Nat→Option α
 | 0=>none
 | t+1=>(l.find? fun e=>t==e.1).map (·.2)
def hSet{α:Type}(l:List (Nat×α))(h:Nat)(x:α):List (Nat×α):=match h with
 | 0=>l
 | t+1=>match l.findIdx? (fun e=>t==e.1) with
  | some i=>l.set i (t,x)
  | none=>l
def hDel{α:Type}(l:List (Nat×α))(h:Nat):List (Nat×α):=match h with
 | 0=>l
 | t+1=>match l.findIdx? (fun e=>t==e.1) with
  | some i=>l.eraseIdx i
  | none=>l
theorem Kmo{α:Type}{l:List (Nat×α)}{h:Nat}{x:α}(hh:hGet l h=some x):∃ t i,h=t+1∧l.findIdx? (fun e=>t==e.1)=some i∧l[i]?=some (t,x):=by
 cases h with
 | zero=>cases hh
 | succ t=>
  have h1:=Kkz l t
  unfold mGet at h1
  have h2:(l.find? fun e=>t==e.1).map (·.2)=some x:=hh
  rw[h1] at h2
  cases hi:l.findIdx? (fun e=>t==e.1) with
  | none=>rw[hi] at h2;cases h2
  | some i=>
   rw[hi] at h2
   obtain⟨y,hy,rfl⟩:=oMs.1 h2
   obtain⟨hil,hk,_⟩:=lFi.1 hi
   have:l[i]=y:=by rw[gGe hil] at hy;exact oSi hy
   have hk':t=y.1:=by rw[←this];simpa using hk
   refine⟨t,i,rfl,hi,?_⟩
   rw[hy,hk']
abbrev arG{α:Type}(f:Nat→α→Ar)(l:List (Nat×α)):List Ar:=l.map fun e=>f e.1 e.2
abbrev fM{K V:Type}(kv:K→Value)(agg:Bool)(enc:V→List D)(t:Nat)(m:List (K×V)):Ar:=.map t agg (m.map fun e=>(kv e.1,enc e.2))
abbrev fB{X:Type}(ty:TypeId)(enc:X→List D)(t:Nat)(x:X):Ar:=.box t ty (enc x)
def ArU(ar:List Ar)(h:Nat)(a a':Ar)(arn:List Ar):Prop:=h=a.t+1∧a'.t=a.t∧∃ ar',ar.Perm (a :: ar')∧arn.Perm (a' :: ar')
def ArD(ar:List Ar)(h:Nat)(a:Ar)(ar':List Ar):Prop:=h=a.t+1∧ar.Perm (a :: ar')
theorem ArU.l{ar arn:List Ar}{h:Nat}{a a':Ar}(r:List Ar)(hu:ArU ar h a a' arn):ArU (ar++r) h a a' (arn++r):=
 let ⟨h1,h2,ar',h3,h4⟩:=hu;⟨h1,h2,ar'++r,h3.append_right r,h4.append_right r⟩
theorem ArU.r{ar arn:List Ar}{h:Nat}{a a':Ar}(l:List Ar)(hu:ArU ar h a a' arn):ArU (l++ar) h a a' (l++arn):=
 let ⟨h1,h2,ar',h3,h4⟩:=hu;⟨h1,h2,l++ar',(h3.append_left l).trans List.perm_middle,(h4.append_left l).trans List.perm_middle⟩
theorem ArD.l{ar ar':List Ar}{h:Nat}{a:Ar}(r:List Ar)(hu:ArD ar h a ar'):ArD (ar++r) h a (ar'++r):=⟨hu.1,hu.2.append_right r⟩
theorem ArD.r{ar ar':List Ar}{h:Nat}{a:Ar}(l:List Ar)(hu:ArD ar h a ar'):ArD (l++ar) h a (l++ar'):=⟨hu.1,(hu.2.append_left l).trans List.perm_middle⟩
theorem Kmp{α:Type}{f:Nat→α→Ar}{l:List (Nat×α)}{h:Nat}{x:α}(hf:∀ t x,(f t x).t=t)(hh:hGet l h=some x)(x':α):ArU (arG f l) h (f (h - 1) x) (f (h - 1) x') (arG f (hSet l h x')):=by
 obtain⟨t,i,rfl,h1,h2⟩:=Kmo hh
 refine⟨by rw[hf];rfl,by rw[hf,hf],arG f (l.eraseIdx i),?_,?_⟩
 ·exact((Kla (t,x) h2).2.map _)
 have:hSet l (t+1) x'=l.set i (t,x'):=by simp only[hSet,h1]
 rw[this]
 exact((Kla (t,x') h2).1.map _)
theorem Kmq{α:Type}{f:Nat→α→Ar}{l:List (Nat×α)}{t:Nat}{x:α}:(arG f ((t,x) :: l)).Perm (f t x :: arG f l):=.refl _
theorem Kmr{ar arn:List Ar}{a:Ar}(r:List Ar)(h:arn.Perm (a :: ar)):(arn++r).Perm (a :: (ar++r)):=h.append_right r
theorem Kms{ar arn:List Ar}{a:Ar}(l:List Ar)(h:arn.Perm (a :: ar)):(l++arn).Perm (a :: (l++ar)):=(h.append_left l).trans List.perm_middle
abbrev eH(kd:Option Nat)(h:Nat):List D:=[.hd kd h]
theorem Fr.ev_ne{fr:Fr}{y:Operand}{g g' g1:G}{t:Nat}(ht:fr.get t=some g1)(hy:fr.ev y=some g)(hne:g≠g1):Fr.ev ((t,g') :: fr) y=some g:=by
 cases y with
 | tmp u=>
  simp only[Fr.ev,Fr.get] at hy ⊢
  cases hk:Nat.beq t u with
  | true=>
   have:=nEq hk
   subst this
   rw[ht] at hy
   exact absurd (oSi hy).symm hne
  | false=>exact hy
 | const c=>exact hy
 | global g=>exact hy
 | func f=>exact hy
theorem Fr.ev_here{fr:Fr}{g:G}{t:Nat}:Fr.ev ((t,g) :: fr) (.tmp t)=some g:=by simp[Fr.ev,Fr.get]
def ZDv(agg:Bool)(ds:List D)(v:Value):Prop:=∀ w O,DV w O agg ds v
theorem Kmt{v:Value}{kd:Option Nat}(hz:v=hval kd none):ZDv false (eH kd 0) v:=fun w O=>⟨_,rfl,by rw[hz];exact .hd _ _ _ rfl⟩
theorem G.Le.hdN{kd:Option Nat}:G.Le (.d (.v (hval kd none))) (.d (.hd kd 0)):=fun w O M v hv=>by
 rw[vr_v hv]
 exact .d (.hd _ _ _ rfl)
section
variable{P:Program}{Γ:TypeId→Option TI}{F N:Nat}{Q:GPost}{fr fr':Fr}{hp hp':List Ob}{ks:List Kt}
variable{ops:Array Oper}{rest:List Oper}{g:G}
variable{d:Tmp}{op:Op}{ty t':TypeId}{pos:String}{after:Array Edge}{gd:Option (Nat×Bool)}
variable{K V:Type}[BEq K][KLt K]{kv:K→Value}{agg:Bool}{enc:V→List D}
theorem Kmu(hΓ:TOK P Γ){t kt et:TypeId}{i1 i2 i3:TI}{x y:Operand}{id:Nat}{st:Option (List (Value×List D)×List Nat×Nat)}(m:List (K×V))(k:K)(z:V){gv:G}(h1:Γ t=some i1)(h1':i1.desc=.map kt et)(h2:Γ kt=some i2)(h3:Γ et=some i3)(hK:KeyOk i2.desc kv)
  (hx:fr.ev x=some (.map id)) (ho:hp[id]?=some (mObS kv agg enc m st)) (hy:fr.ev y=some (.d (.v (kv k)))) (hz:ZDv agg (enc z) i3.zero)
  (hg:dG agg (enc ((mGet m k).getD z))=some gv):OpP P N ⟨some d,.lookup t x y false,ty,pos,after,gd⟩ fr hp gv:=fun Z w M a hr=>by
 obtain⟨u1,_⟩:=hΓ t _ h1
 rw[h1'] at u1
 obtain⟨u2,_⟩:=hΓ kt _ h2
 obtain⟨u3,inf,e1,e2,e3,e4⟩:=hΓ et _ h3
 have hvx:=hr.ev hx
 simp only[execOp,hr.ev_v hy]
 generalize a.eval x=vx at hvx
 cases hvx with
 | map hM=>
  obtain⟨m',ms,cl,hA⟩:=Kky hr.heap ho hM
  have m1:=hA.heap
  have m4:=hA.get
  have hf:=MapKept.run_findKey (P:=P) (w:=w) u2 (hA.find hK k)
  have hc:=MapKept.run_checkKey (P:=P) (w:=w) u2 (hK.key k) ms.isEmpty 9999
  rw[←Kkx hK hA.perm hA.apart] at hg
  rw[Kkz] at hg
  cases hi:m'.findIdx? fun e=>k==e.1 with
  | none=>
   rw[hi] at hf hg
   simp only[Option.bind_none,Option.getD_none] at hf hg
   refine⟨i3.zero,?_,(hz _ _).vr hg⟩
   simp[Instr.lookup,run_underlying u1,MapKept.run_getObj_map m1,hc,hf,zeroValue,typeInfo,e1,e4]
  | some j=>
   rw[hi] at hf hg
   have hj:j<m'.length:=(lFi.1 hi).1
   obtain⟨e,f1,f2,f3⟩:=m4 j _ (gGe hj)
   simp only[Option.bind_some,f1,List.getElem?_eq_getElem hj,Option.map_some,Option.getD_some] at hf hg
   refine⟨e.val,?_,f3.vr hg⟩
   simp[Instr.lookup,run_underlying u1,MapKept.run_getObj_map m1,hc,hf]
theorem Kmv{o:Oper}{bg h:Nat}{kd:Option Nat}{al:List Bool}{ar arn:List Ar}{lt:List (Nat×Nat)}{a a':Ar}(t:Tmp)(hx:fr.get t=some (.d (.hd kd h)))(hbag:hp[bg]?=some (.bag al ar lt))(hu:ArU ar h a a' arn)(hg:g.bel 0=true)
  (k:∀ ar',OpP P N o ((t,hdG kd hp.length) :: fr) (hp.set bg (.bag al ar' ((a.t,hp.length) :: lt))++[a.ob]) g) (hnr:a.isRow=false:=by rfl):OpP P N o fr hp g:=fun Z w M a0 hr=>by
 obtain⟨rfl,_,ar',hperm,_⟩:=hu
 obtain⟨M',h1,h2,h3⟩:=Kmh t hx hbag hperm hnr Z w M a0 hr
 obtain⟨v,hrun,hv⟩:=k ar' Z w M' a0 h1
 refine⟨v,hrun,?_⟩
 have e:ownZ Z (hp.set bg (.bag al ar' ((a.t,hp.length) :: lt))++[a.ob]) M'=ownZ Z hp M:=by unfold ownZ;rw[h2];congr 1;exact congrArg Ow.h h2
 rw[e] at hv
 exact hv.move (k:=0) (.refl _ _) (fun i hi=>absurd hi (Nat.not_lt_zero i)) hg
theorem Kmw{o:Oper}{bg h:Nat}{kd:Option Nat}{al:List Bool}{ar arn:List Ar}{a a':Ar}(t:Tmp)(o':Ob)(hx:fr.get t=some (.d (.hd kd h)))(hbag:hp[bg]?=some (.bag al ar []))(hu:ArU ar h a a' arn)(hl:o'.live=true)(hoa:a'.of o')
  (k:∀ ar',OpU P N o ((t,hdG kd hp.length) :: fr) (hp.set bg (.bag al ar' [(a.t,hp.length)])++[a.ob]) ((hp.set bg (.bag al ar' [(a.t,hp.length)])++[a.ob]).set hp.length o')) (hnr:a.isRow=false:=by rfl):OpU P N o fr hp (hp.set bg (.bag al arn [])):=fun Z w M a0 hr=>by
 obtain⟨rfl,hat,ar',hperm,hperm'⟩:=hu
 have hbl:bg<hp.length:=(gEs.1 hbag).1
 obtain⟨M',h1,h2,h3⟩:=Kmh t hx hbag hperm hnr Z w M a0 hr
 obtain⟨w',M2,hrun,k1,k2,k3⟩:=k ar' Z w M' a0 h1
 have e1:(hp.set bg (.bag al ar' [(a.t,hp.length)])++[a.ob]).set hp.length o'=hp.set bg (.bag al ar' [(a.t,hp.length)])++[o']:=by
  rw[List.set_append_right _ _ (by simp)];simp
 rw[e1] at k1 k2
 have hb2:(hp.set bg (.bag al ar' [(a.t,hp.length)])++[o'])[bg]?=some (.bag al ar' [(a'.t,hp.length)]):=by
  rw[gAl (by simpa using hbl),gSs hbl,hat]
 have ho2:(hp.set bg (.bag al ar' [(a.t,hp.length)])++[o'])[hp.length]?=some o':=by
  rw[gAr (by simp)];simp
 obtain⟨r1,r2⟩:=k1.back hb2 ho2 hl hoa
 have e2:((hp.set bg (.bag al ar' [(a.t,hp.length)])++[o']).set hp.length .dead).set bg (.bag al (a' :: ar') [])=hp.set bg (.bag al (a' :: ar') [])++[.dead]:=by
  rw[List.set_append_right _ _ (by simp)]
  simp only[List.length_set,Nat.sub_self,List.set_cons_zero]
  rw[List.set_append_left _ _ (by simpa using hbl),List.set_set]
 rw[e2] at r1 r2
 have hb3:HB (hp.set bg (.bag al (a' :: ar') [])).length (hp.set bg (.bag al (a' :: ar') [])):=fun i q hq=>by
  rw[List.length_set]
  by_cases hi:bg=i
  ·subst hi;rw[gSs hbl] at hq;cases hq;rfl
  ·rw[gSn hi] at hq;exact hr.heap.hb i q hq
 have r3:=r1.cut hb3
 have hlen:(hp.set bg (.bag al (a' :: ar') [])).length=hp.length:=by simp
 have s3:Stp w (own hp M) w' (own (hp.set bg (.bag al (a' :: ar') [])++[.dead]) M2):=by
  rw[r2];rw[h2] at k2;exact k2
 have s4:=Kqr s3
 have hb4:(hp.set bg (.bag al (a' :: ar') []))[bg]?=some (.bag al (a' :: ar') []):=gSs hbl
 obtain⟨r5,r6⟩:=r3.reperm hb4 hperm'
 rw[List.set_set] at r5 r6
 refine⟨w',_,hrun,r5,by rw[r6];exact s4,?_⟩
 have hA:Agr hp.length M M2:=h3.trans k3 (by simp)
 rw[hlen]
 exact hA.cut (Nat.le_refl _) hA.le
theorem Kmx{bg:Nat}{b:Ob}{o:Ob}:(hp.set bg b++[o])[hp.length]?=some o:=by
 rw[gAr (by simp)];simp
theorem Kmy(hΓ:TOK P Γ){t e:TypeId}{i1:TI}{x y:Operand}{h off:Nat}(h1:Γ t=some i1)(h1':i1.desc=.pointer e)(hx:fr.ev x=some (.d (.hd (some off) h)))(hy:y=.const (.pointer none)) :
  OpP P N ⟨some d,.binOp .eql t x y t',ty,pos,after,gd⟩ fr hp (B (h==0))∧OpP P N ⟨some d,.binOp .neq t x y t',ty,pos,after,gd⟩ fr hp (B (!(h==0))):=by
 constructor<;>intro Z w M a hr
 all_goals
  obtain⟨u1,_⟩:=hΓ t _ h1
  rw[h1'] at u1
  have hyv:a.eval y=.pointer none:=by subst hy;rfl
  have hvx:=hr.ev hx
  generalize hq:a.eval x=vx at hvx
  have hv:∃ p:Option Addr,vx=.pointer p∧p.isNone=(h==0):=by
   cases hvx with
   | d hd=>cases hd with
    | hd _ _ _ hd=>
     cases h with
     | zero=>exact⟨none,hd,rfl⟩
     | succ t=>obtain⟨x,_,_,e⟩:=hd;exact⟨some ⟨x.b,off,none⟩,e,rfl⟩
  obtain⟨p,rfl,hp0⟩:=hv
  rw[←hp0]
  refine⟨_,?_,.d (.v _ rfl)⟩
  first
   | (simp[execOp,hyv,hq,eqGuard,(Kls (P:=P) (w:=w) t e p u1).1];done)
   | (simp[execOp,hyv,hq,eqGuard,(Kls (P:=P) (w:=w) t e p u1).2];done)
theorem Kmz{α:Type}{l:List (Nat×α)}{h:Nat}{x:α}(hh:hGet l h=some x):0<h:=by
 obtain⟨t,i,rfl,_⟩:=Kmo hh;omega
end
end Go.Gk
namespace Go.Gk
def rangeW{α σ:Type}(f:α→σ→Option σ)(m:List α)(s:σ)(Q:σ→Prop):Prop:=∀ m':List α,m'.Perm m→∃ r,rangeL f m' s=some r∧Q r
def okW{α:Type}(o:Option α)(Q:α→Prop):Prop:=∃ r,o=some r∧Q r
def loopW{σ ρ:Type}(G:σ→(LS σ ρ→Prop)→Prop):Nat→σ→(ρ→Prop)→Prop
 | 0,_,_=>False
 | k+1,s,Q=>G s fun x=>match x with
  | .go s'=>loopW G k s' Q
  | .out r=>Q r
noncomputable def loopD {σ ρ:Type} (G:σ→(LS σ ρ→Prop)→Prop) (k:Nat) (s:σ):Option ρ:=
 open Classical in if h:∃ r,loopW G k s (fun r'=>r'=r) then some (Classical.choose h) else none
structure WOk{σ ρ:Type}(G:σ→(LS σ ρ→Prop)→Prop):Prop where
 mono:∀ s (C D:LS σ ρ→Prop),(∀ x,C x→D x)→G s C→G s D
 both:∀ s (C D:LS σ ρ→Prop),G s C→G s D→∃ x,C x∧D x
section
variable{P:Program}{F N:Nat}{Q:GPost}{fr fr':Fr}{hp hp':List Ob}{ks:List Kt}
variable{K V:Type}[BEq K][KLt K]{kv:K→Value}{agg:Bool}{enc:V→List D}
theorem Kna{σ:Type}{c:Code}{f:K×V→σ→Option σ}{s0:σ}{C:σ→Prop}{m m':List (K×V)}{bs:List Nat}(h:rangeW f m s0 C)(hpm:m'.Perm m)(hl:bs.length=m'.length)(hn:bs.Nodup)
  (st:σ→Fr) (ob:List Nat→σ→List Ob) (hm:MidP F (st s0) (ob [] s0) fr hp)
  (round:∀ (seen:List Nat) (s:σ),((∀ b∈bs,b∈seen)→C s)→(∀ (j:Nat) (y:K×V) (b:Nat),m'[j]?=some y→bs[j]?=some b→b ∉ seen→∃ s',f y s=some s')→
   St.holds P F N Q (.code c (.mid (fun fr' hp'=>∃ (j:Nat) (y:K×V) (b:Nat) (s':σ),m'[j]?=some y∧bs[j]?=some b∧b ∉ seen∧f y s=some s'∧MidP F (st s') (ob (seen++[b]) s') fr' hp') :: ks)) (st s) (ob seen s)) :
  St.holds P F N Q (.code (.loop c) ks) fr hp:=by
 have hz:(m'.zip bs).map (·.2)=bs:=List.map_snd_zip (by omega)
 have hz1:(m'.zip bs).map (·.1)=m':=List.map_fst_zip (by omega)
 refine Kfs hm ?_
 refine Kqt (fun n fr hp=>∃ seen s,n=(remL (m'.zip bs) seen).length∧(∀ l,l.Perm (remL (m'.zip bs) seen)→∃ r,rangeL f l s=some r∧C r)∧fr=st s∧hp=ob seen s) _ ⟨[],s0,rfl,fun l hl'=>?_,rfl,rfl⟩ ?_
 ·refine h l (hl'.trans ?_)
  have:remL (m'.zip bs) []=m':=by
   unfold remL
   rw[List.filter_eq_self.2 fun e _=>by simp,hz1]
  rw[this]
  exact hpm
 rintro n fr hp ⟨seen,s,rfl,hI,rfl,rfl⟩
 have hstep:∀ (j:Nat) (y:K×V) (b:Nat),m'[j]?=some y→bs[j]?=some b→b ∉ seen→∃ s',f y s=some s'∧(∀ l,l.Perm (remL (m'.zip bs) (seen++[b]))→∃ r,rangeL f l s'=some r∧C r)∧(remL (m'.zip bs) (seen++[b])).length<(remL (m'.zip bs) seen).length:=fun j y b hj hb hns=>by
  have hp:=Klg hns (l:=m'.zip bs) (j:=j) (by rw[List.getElem?_zip_eq_some];exact⟨hj,hb⟩) (by rw[hz];exact hn)
  obtain⟨r1,h1,_⟩:=hI _ hp.symm
  simp only[rangeL] at h1
  cases hs:f y s with
  | none=>rw[hs] at h1;cases h1
  | some s'=>
   refine⟨s',rfl,fun l hl'=>?_,by have:=hp.length_eq;simp at this;omega⟩
   have h2:=hI (y :: l) ((hl'.cons y).trans hp.symm)
   simp only[rangeL,hs] at h2
   exact h2
 refine Kqk (round seen s (fun hd=>?_) fun j y b hj hb hns=>let ⟨s',h1,_⟩:=hstep j y b hj hb hns;⟨s',h1⟩) fun e fr' hp' h'=>?_
 ·have h0:remL (m'.zip bs) seen=[]:=Kle fun e he=>hd e.2 (by rw[←hz];exact List.mem_map.2 ⟨e,he,rfl⟩)
  obtain⟨r,h1,h2⟩:=hI [] (by rw[h0])
  cases h1
  exact h2
 ·cases e with
  | normal=>
   obtain⟨j,y,b,s',hj,hb,hns,hs,hm'⟩:=h'
   obtain⟨s2,h1,h2,h3⟩:=hstep j y b hj hb hns
   rw[hs] at h1
   cases h1
   obtain⟨ex,e1,e2,e3⟩:=hm'.ex
   exact⟨_,st s',ob (seen++[b]) s',ex,h3,⟨seen++[b],s',rfl,h2,rfl,rfl⟩,e1,e2,e3⟩
  | _=>exact h'
end
end Go.Gk
namespace Go.Gk
structure KeyP(P:Program){K:Type}[BEq K](kt:TypeId)(kv:K→Value):Prop where
 find:∀ (w:World) (k:K) (l:List MapEntry) (m:List K),l.length=m.length→(∀ (j:Nat) (e:MapEntry) (x:K),l[j]?=some e→m[j]?=some x→e.key=kv x)→
  (Instr.findKey kt (kv k) l).run P w=.ok ((m.findIdx? fun x=>k==x).bind fun j=>(l[j]?).map fun e=>(j,e.val)) w
 check:∀ (w:World) (em:Bool) (k:K),(Instr.checkKey em 10000 kt (kv k)).run P w=.ok () w
 bits:∀ a b:K,(a==b)=true→Instr.sameBits 10000 (kv b) (kv a)=true
 ne:∀ a b:K,(a==b)=false→kv b≠kv a
 eq:∀ a b:K,(a==b)=true→a=b
 refl:∀ a:K,(a==a)=true
abbrev D.val:D→Value
 | .v x=>x
 | _=>.bool false
abbrev kD{K:Type}(enc:K→List D)(k:K):Value:=.agg ((enc k).map D.val).toArray
abbrev kG{K:Type}(enc:K→List D)(k:K):G:=.agg ((enc k).map G.d)
def Env.nil:Env:=⟨fun _=>False,fun _=>False,fun _ h=>h,fun _=>False,fun _ _ _ h=>h,fun _ h=>h.elim⟩
def D.isVal:D→Bool
 | .v x=>x.oneCell'
 | _=>false
def flatK:TypeDesc→Bool
 | .int _ | .bool | .string=>true
 | _=>false
def flatFs(Γ:TypeId→Option TI)(xs:List G):List Field→Bool
 | []=>true
 | f :: fs=>(match Γ f.type with
  | some ⟨.int k,a,b,z⟩=>(partG ⟨.int k,a,b,z⟩ xs f.offset).isSome
  | some ⟨.bool,a,b,z⟩=>(partG ⟨.bool,a,b,z⟩ xs f.offset).isSome
  | some ⟨.string,a,b,z⟩=>(partG ⟨.string,a,b,z⟩ xs f.offset).isSome
  | _=>false)&&flatFs Γ xs fs
section
variable{P:Program}{Γ:TypeId→Option TI}
end
section
variable{P:Program}{Γ:TypeId→Option TI}{F N:Nat}{Q:GPost}{fr fr':Fr}{hp hp':List Ob}{ks:List Kt}
variable{ops:Array Oper}{rest:List Oper}{g:G}
variable{d:Tmp}{op:Op}{ty:TypeId}{pos:String}{after:Array Edge}{gd:Option (Nat×Bool)}
variable{K V:Type}[BEq K][KLt K]{kv:K→Value}{agg:Bool}{enc:V→List D}{kenc:K→List D}
end
end Go.Gk
namespace Go.Gk
def rangeLM{α σ ρ:Type}(f:α→σ→Option (LS σ ρ)):List α→σ→Option (LS σ ρ)
 | [],s=>some (.go s)
 | x :: l,s=>match f x s with
  | some (.go s')=>rangeLM f l s'
  | some (.out r)=>some (.out r)
  | none=>none
noncomputable def rangePM {α σ ρ:Type} (f:α→σ→Option (LS σ ρ)) (m:List α) (s:σ):Option (LS σ ρ):=
 open Classical in if h:∃ r,∀ m':List α,m'.Perm m→rangeLM f m' s=some r then some (Classical.choose h) else none
def asc(s:List UInt8):Bool:=s.all fun b=>decide (b.toNat<128)
section
variable{P:Program}{Γ:TypeId→Option TI}{F N:Nat}{Q:GPost}{fr fr':Fr}{hp hp':List Ob}{ks:List Kt}
variable{ops:Array Oper}{rest:List Oper}{g:G}
variable{d:Tmp}{op:Op}{ty:TypeId}{pos:String}{after:Array Edge}{gd:Option (Nat×Bool)}
variable{K V:Type}[BEq K][KLt K]
end
end Go.Gk
namespace Go.Gk
structure Spec where
 k:Nat
 fr:Fr
 g:G
 ch:Option (Nat×Ob×Ob)
abbrev LogE:=(List (Option G)×Option Ob)×(List (Option G)×Option Ob)
def SpecOk(P:Program)(N:Nat)(ops:Array Oper)(sp:Spec):Prop:=∃ (o:Oper) (d:Tmp),ops[sp.k]?=some o∧o.dst=some d∧d<N∧o.guard=none∧(∀ t g,sp.fr.get t=some g→t∈o.looksAt ops)∧
 match sp.ch with
 | none=>∀ hp,QtE P N o sp.fr hp sp.g hp
 | some (id,x,y)=>∀ hp,hp.all Ob.sole=true→hp[id]?=some x→QtE P N o sp.fr hp sp.g (hp.set id y)
def SpecsOk(P:Program)(N:Nat)(ops:Array Oper):List Spec→Prop
 | []=>True
 | s :: r=>SpecOk P N ops s∧SpecsOk P N ops r
def Spec.log(sp:Spec)(fr:Fr)(hp:List Ob):LogE:=match sp.ch with
 | none=>((sp.fr.map fun e=>fr.get e.1,none),(sp.fr.map fun e=>some e.2,none))
 | some (id,x,_)=>((sp.fr.map fun e=>fr.get e.1,hp[id]?),(sp.fr.map fun e=>some e.2,some x))
def findS(sps:List Spec)(k:Nat):Option Spec:=match sps with
 | []=>none
 | s :: r=>bif Nat.beq s.k k then some s else findS r k
def lstC(Γ:TypeId→Option TI)(N:Nat)(hpL:List Ob)(ll:List Nat)(bx:List (Nat×List Nat))(sps:List Spec)(ops:Array Oper)(k:Nat)(fr:Fr)(hp:List Ob)(lg:List LogE)(o:Oper):Option (Fr×List LogE):=match findS sps k with
 | some sp=>match sp.ch,o.dst with
  | none,some d=>some ((d,sp.g) :: fr,lg++[sp.log fr hp])
  | _,_=>none
 | none=>(xstep Γ N hpL ll bx ops k fr o).map fun fr'=>(fr',lg)
def hstC(Γ:TypeId→Option TI)(N:Nat)(hpL:List Ob)(sps:List Spec)(ops:Array Oper)(k:Nat)(fr:Fr)(hp:List Ob)(lg:List LogE)(o:Oper):Option (Fr×List Ob×List LogE):=match findS sps k with
 | some sp=>match sp.ch,o.dst with
  | some (id,_,y),some d=>bif hp.all Ob.sole&&deadB hpL id then some ((d,sp.g) :: fr,hp.set id y,lg++[sp.log fr hp]) else none
  | _,_=>none
 | none=>(hst Γ N hpL ops fr hp o).map fun s=>(s.1,s.2,lg)
def anyC(Γ:TypeId→Option TI)(N:Nat)(hpL:List Ob)(ll hl:List Nat)(bx:List (Nat×List Nat))(sps:List Spec)(ops:Array Oper):Nat→Array Bool→Fr→List Ob→List LogE→Option (List (Fr×List Ob×List LogE))
 | 0,listed,fr,hp,lg=>match Region.ready .any ops listed with
  | []=>some [(fr,hp,lg)]
  | _ :: _=>none
 | fuel+1,listed,fr,hp,lg=>match Region.ready .any ops listed with
  | []=>some [(fr,hp,lg)]
  | i0 :: r=>match (i0 :: r).find? fun i=>!(inL hl i) with
   | some i=>match ops[i]? with
    | none=>none
    | some o=>bif Region.free .any ops listed i then match lstC Γ N hpL ll bx sps ops i fr hp lg o with
     | some s=>anyC Γ N hpL ll hl bx sps ops fuel (listed.setIfInBounds i true) s.1 hp s.2
     | none=>none
     else none
   | none=>ocat (fun i=>match ops[i]? with
     | none=>none
     | some o=>match hstC Γ N hpL sps ops i fr hp lg o with
      | some s=>anyC Γ N hpL ll hl bx sps ops fuel (listed.setIfInBounds i true) s.1 s.2.1 s.2.2
      | none=>none) (i0 :: r)
section
variable{P:Program}{Γ:TypeId→Option TI}{F N:Nat}{Q:GPost}{fr fr':Fr}{hp hp' hpL:List Ob}{ks:List Kt}{ll hl:List Nat}{bx:List (Nat×List Nat)}{sps:List Spec}
variable{ops:Array Oper}
def LogOk(lg:List LogE):Prop:=∀ e∈lg,e.1=e.2
end
end Go.Gk
