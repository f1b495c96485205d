import Derived.Test.YtjmlnnanfkiakaaGreatDoorGk39
import Derived.WideKeyRuns
set_option linter.all false
namespace Go.Gk
open Go.Instr
variable{P:Program}{Γ:TypeId→Option TI}{F N:Nat}{Q:GPost}{fr fr':Fr}{hp hp':List Ob}{ks:List Kt}
variable{α:Type}{enc:α→List D}{ops:Array Oper}{rest:List Oper}{g:G}
variable{d:Tmp}{op:Op}{ty:TypeId}{pos:String}{after:Array Edge}{gd':Option (Nat×Bool)}
end Go.Gk
namespace Go.Gk
abbrev Tl(α:Type):Type:=Nat×List α
def Slt{α:Type}(te:TypeId)(sz:Nat)(enc:α→List D)(s:Tl α):D:=.rt te sz s.1 s.2.length (s.2.flatMap enc)
def eT{α:Type}(te:TypeId)(sz:Nat)(enc:α→List D)(s:Tl α):List D:=[Slt te sz enc s]
theorem RelH.bag_none{Z:Env}{hp:List Ob}{M:Mp}{w:World}(hr:RelH Z hp M w){bg:Nat}{al:List Bool}{ar:List Ar}{lt:List (Nat×Nat)}(hbag:hp[bg]?=some (.bag al ar lt)):M.l[bg]?=some none∧ObR w (ownZ Z hp M) M (.bag al ar lt) none:=by
 have hbl:bg<hp.length:=(gEs.1 hbag).1
 have e:M.l[bg]?=some (M.l[bg]'(by rw[hr.len];exact hbl)):=gGe _
 have:=hr.obj bg _ _ hbag e
 revert this
 rw[e]
 cases M.l[bg]'(by rw[hr.len];exact hbl) with
 | none=>exact fun h=>⟨rfl,h⟩
 | some _=>exact fun h=>h.elim
theorem Kje{w:World}{O:Ow}{te:TypeId}{sz t n:Nat}{xs:List D}{v:Value}(h:VD w O (.rt te sz t n xs) v):O.Tag te sz n v t:=by
 cases h with
 | rt _ _ _ _ _ _ _ h=>exact h
theorem Kjf{Z:Env}{hp:List Ob}{M:Mp}{w:World}(hr:RelH Z hp M w){bg:Nat}{al:List Bool}{ar:List Ar}{lt:List (Nat×Nat)}(hbag:hp[bg]?=some (.bag al ar lt)):(∀ a∈ar,a∈ar)∧ar.Pairwise (fun a a'=>a.t≠a'.t)∧∀ a∈ar,a.isRow=true→al[a.t]?=some true:=
 let ⟨_,_,_,_,q4,q5,_⟩:=hr.bag_none hbag;⟨fun _ h=>h,q5,fun a ha=>(q4 a ha).2.2⟩
theorem Kjg{Z:Env}{hp:List Ob}{M:Mp}{w:World}(hr:RelH Z hp M w){bg:Nat}{al al0:List Bool}{ar:List Ar}{lt:List (Nat×Nat)}(hbag:hp[bg]?=some (.bag al ar lt)){te:TypeId}{sz tg n:Nat}{xs:List D}{v:Value}(hvx:VD w (ownZ Z hp M) (.rt te sz tg n xs) v)
  (htg:(tg=1∧al0=al)∨∃ q,tg=q+2∧al[q]?=some true∧al0=al.set q false):(∀ a∈ar,a∈ar)∧ar.Pairwise (fun a a'=>a.t≠a'.t)∧∀ a∈ar,a.isRow=true→al0[a.t]?=some true:=by
 obtain⟨_,_,_,_,q4,q5,_⟩:=hr.bag_none hbag
 refine⟨fun _ h=>h,q5,fun a ha hrow=>?_⟩
 obtain⟨hR,_,hal⟩:=q4 a ha
 rcases htg with⟨_,rfl⟩ | ⟨q,rfl,_,rfl⟩
 ·exact hal hrow
 ·rw[gSn]
  ·exact hal hrow
  ·intro e
   subst e
   cases a with
   | map _ _ _=>cases hrow
   | box _ _ _=>cases hrow
   | row t ty sz n ds=>
    obtain⟨x,hx,⟨hv,_⟩,_⟩:=hR
    have hx':(ownZ Z hp M).h[t]?=some (some x):=hx
    rcases Kje hvx with⟨hn,_⟩ | ⟨x',hn,_,_,_,hv',_⟩
    ·have hn':(ownZ Z hp M).h[t]?=some none:=hn
     rw[hx'] at hn';cases hn'
    ·have hn':(ownZ Z hp M).h[t]?=some (some x'):=hn
     rw[hx'] at hn';cases hn'
     rw[hv] at hv';cases hv'
theorem Kjh{Z:Env}{hp hp1:List Ob}{M:Mp}{w w':World}{bg:Nat}{al al0:List Bool}{ar ar1:List Ar}{lt:List (Nat×Nat)}(bn:Bool)(T:Option Tg)(hr:RelH Z hp M w)(hbag:hp[bg]?=some (.bag al ar lt))(hl:hp1.length=hp.length)
  (h1:∀ (i:Nat) (o:Ob),hp1[i]?=some o→o=.dead∨(i≠bg∧hp[i]?=some o)∨(i=bg∧o=.bag (al0++[bn]) ar1 lt)) (hb1:hp1[bg]?=some (.bag (al0++[bn]) ar1 lt))
  (g1:w.heap.size≤w'.heap.size) (g2:w'.os=w.os) (g3:w'.tape=w.tape) (g4:w'.output=w.output) (hkeep:∀ k,k<w.heap.size→(∀ y:Tg,T=some y→k≠y.b)→w'.heap[k]?=w.heap[k]?)
  (hlen:al0.length=al.length) (hal:∀ t:Nat,al0[t]?=some true→al[t]?=some true)
  (hT:∀ y:Tg,T=some y→(bn=true→0<y.sz∧∃ cur:Array Value,w'.heap[y.b]?=some (.cells cur y.t (0,0))∧cur.size=y.c * y.sz∧y.n≤y.c∧y.c≤maxLen)∧y.b<w'.heap.size∧(y.b<w.heap.size→own hp M y.b)∧¬ obOwn hp1 M y.b∧
   (∀ x:Tg,some x∈M.h→x.b=y.b→0<x.sz∧0<y.sz∧x.n * x.sz≤y.n * y.sz∧∀ k,k<x.n * x.sz→w'.cell? ⟨x.b,k,none⟩=w.cell? ⟨x.b,k,none⟩)∧(∀ (t:Nat) (x:Tg),al0[t]?=some true→M.h[t]?=some (some x)→x.b≠y.b))
  (ar0:List Ar) (hsub:(∀ a∈ar0,a∈ar)∧ar0.Pairwise (fun a a'=>a.t≠a'.t)∧∀ a∈ar0,a.isRow=true→al0[a.t]?=some true)
  (har:ar1=ar0∨∃ a,ar1=a :: ar0∧a.t=al.length∧(Stp w (own hp M) w' (own hp1 ⟨M.l,M.h++[T]⟩)→ArR w' (ownZ Z hp1 ⟨M.l,M.h++[T]⟩) ⟨M.l,M.h++[T]⟩ a)∧(a.isRow=true→bn=true)) :
  RelH Z hp1 ⟨M.l,M.h++[T]⟩ w'∧Stp w (own hp M) w' (own hp1 ⟨M.l,M.h++[T]⟩)∧Agr hp.length M ⟨M.l,M.h++[T]⟩:=by
 have hbl:bg<hp.length:=(gEs.1 hbag).1
 have hbm:M.l[bg]?=some none:=by
  have e:M.l[bg]?=some (M.l[bg]'(by rw[hr.len];exact hbl)):=gGe _
  have:=hr.obj bg _ _ hbag e
  revert this
  rw[e]
  cases M.l[bg]'(by rw[hr.len];exact hbl) with
  | none=>exact fun _=>rfl
  | some _=>exact fun h=>h.elim
 have q0:=hr.obj bg _ _ hbag hbm
 obtain⟨q1,q2,q3,q4,q5,q6⟩:=q0
 have hg:hasBag hp:=⟨bg,al,ar,lt,hbag⟩
 have hg1:hasBag hp1:=⟨bg,_,_,_,hb1⟩
 have hmem:∀ x:Tg,some x∈M.h++[T]→some x∈M.h∨T=some x:=fun x hx=>(List.mem_append.1 hx).imp id fun h=>(List.mem_singleton.1 h).symm
 have hget:∀ (t:Nat) (x:Option Tg),M.h[t]?=some x→(M.h++[T])[t]?=some x:=fun t x h=>by rw[gAl (gEs.1 h).1];exact h
 have hsplit:∀ (t:Nat) (x:Tg),(M.h++[T])[t]?=some (some x)→(t<al.length∧M.h[t]?=some (some x))∨(t=al.length∧T=some x):=fun t x hx=>by
  by_cases ht:t<al.length
  ·rw[gAl (by omega)] at hx;exact .inl ⟨ht,hx⟩
  ·rw[gAr (by omega)] at hx
   have hk:t - M.h.length=0:=by
    have:=(gEs.1 hx).1
    simp at this;exact this
   rw[hk] at hx
   simp at hx
   exact .inr ⟨by omega,hx⟩
 have hob:∀ b,obOwn hp1 M b→obOwn hp M b:=by
  rintro b ⟨i,o,c,e1,e2,e3⟩
  rcases h1 i o e1 with rfl | ⟨_,e⟩ | ⟨rfl,rfl⟩
  ·cases e2
  ·exact⟨i,o,c,e,e2,e3⟩
  ·rw[hbm] at e3;cases e3
 have hown:∀ b,b<w.heap.size→own hp1 ⟨M.l,M.h++[T]⟩ b→own hp M b:=by
  rintro b hb (h | ⟨_,x,hx,rfl⟩)
  ·exact .inl (hob b h)
  ·rcases hmem x hx with hx | hx
   ·exact .inr ⟨hg,x,hx,rfl⟩
   ·exact(hT x hx).2.2.1 hb
 have hfz:∀ x:Tg,some x∈M.h→∀ k,k<x.n * x.sz→w'.cell? ⟨x.b,k,none⟩=w.cell? ⟨x.b,k,none⟩:=fun x hx k hk=>by
  by_cases hxy:∃ y,T=some y∧x.b=y.b
  ·obtain⟨y,hy,e⟩:=hxy
   exact((hT y hy).2.2.2.2.1 x hx e).2.2.2 k hk
  ·exact World.cell?_of_block (hkeep _ (hr.bags.tgs x hx).1 fun y hy e=>hxy ⟨y,hy,e⟩)
 have hst:Stp w (own hp M) w' (own hp1 ⟨M.l,M.h++[T]⟩):=by
  refine⟨g1,fun b hb hn=>hkeep b hb fun y hy e=>?_,hown,g2,g3,g4,⟨[T],rfl,fun x hx hb=>?_⟩,hfz,fun h=>absurd hg h⟩
  ·subst e;exact hn ((hT y hy).2.2.1 hb)
  ·exact(hT x (List.mem_singleton.1 hx).symm).2.2.1 hb
 have harR:∀ a∈ar0,ArR w' (ownZ Z hp1 ⟨M.l,M.h++[T]⟩) ⟨M.l,M.h++[T]⟩ a:=fun a ha0=>by
  have ha:=hsub.1 a ha0
  refine ArR.move (M:=M) (M':=⟨M.l,M.h++[T]⟩) (Kob Z hst) (q4 a ha).1 (fun t x h=>hget t _ h) fun x hx=>?_
  have hm:=mOg hx
  refine hkeep _ (hr.bags.tgs x hm).1 fun y hy e=>?_
  cases hrow:a.isRow with
  | true=>exact(hT y hy).2.2.2.2.2 a.t x (hsub.2.2 a ha0 hrow) hx e
  | false=>
   have hz:x.sz=0:=by
    have:=(q4 a ha).1
    cases a with
    | map t agg es=>obtain⟨x',e1,e2,_⟩:=this;have hx':M.h[t]?=some (some x):=hx;rw[hx'] at e1;cases e1;exact e2
    | box t ty ds=>obtain⟨x',e1,e2,_⟩:=this;have hx':M.h[t]?=some (some x):=hx;rw[hx'] at e1;cases e1;exact e2
    | row _ _ _ _ _=>cases hrow
   have:=((hT y hy).2.2.2.2.1 x hm e).1
   omega
 refine⟨⟨by rw[hl];exact hr.len,fun i o m e1 e2=>?_,fun b hb hz=>?_,fun b hb=>nLl (hr.old b hb) g1,hr.amb_stp hst,fun i j oi oj b c c' hi hj li lj mi mj=>?_,⟨fun x hx=>⟨?_,fun hz h=>?_⟩,fun i j a a' ar ar' lt lt' hi hj=>?_,fun i a ar' lt' hi t x hx h=>?_,fun t t' x x' hx hx' hz hb=>?_⟩⟩,hst,⟨by rw[show(⟨M.l,M.h++[T]⟩:Mp).l.length=M.l.length from rfl,hr.len];exact Nat.le_refl _,fun _ _=>rfl⟩⟩
 ·have e2':M.l[i]?=some m:=e2
  rcases h1 i o e1 with rfl | ⟨hi,e⟩ | ⟨rfl,rfl⟩
  ·cases m<;>trivial
  ·have:=hr.obj i o m e e2'
   refine this.move (k:=M.l.length) (M:=M) (M':=⟨M.l,M.h++[T]⟩) (Kob Z hst) (fun _ _=>rfl) this.bel (fun b c em hl2=>?_) fun a ar' lt' ea=>?_
   ·subst em
    refine hkeep b (hr.block_ob ⟨i,o,c,e,hl2,e2'⟩) fun y hy eb=>(hT y hy).2.2.2.1 ⟨i,o,c,e1,hl2,eb▸e2'⟩
   ·subst ea
    exact absurd (hr.bags.one _ _ _ _ _ _ _ _ e hbag) hi
  ·rw[hbm] at e2'
   cases e2'
   have hnew:∀ (t:Nat) (x:Tg),(al0++[bn])[t]?=some true→(M.h++[T])[t]?=some (some x)→(t<al.length∧al0[t]?=some true∧M.h[t]?=some (some x))∨(t=al.length∧bn=true∧T=some x):=fun t x ha hx=>by
    rcases hsplit t x hx with⟨ht,hx⟩ | ⟨ht,hx⟩
    ·rw[gAl (by omega)] at ha
     exact .inl ⟨ht,ha,hx⟩
    ·rw[gAr (by omega)] at ha
     have:t - al0.length=0:=by omega
     rw[this] at ha
     simp at ha
     exact .inr ⟨ht,ha,hx⟩
   have hlt:∀ t id,(t,id)∈lt→t<al.length:=fun t id hm=>by
    obtain⟨x,c,e,_⟩:=q6 t id hm
    rw[q1];exact(gEs.1 e).1
   have hart:∀ a∈ar,a.t<al.length:=fun a ha=>by
    have:=(q4 a ha).1
    cases a with
    | map t agg es=>obtain⟨x',e1,_⟩:=this;rw[q1];exact(gEs.1 e1).1
    | box t ty ds=>obtain⟨x',e1,_⟩:=this;rw[q1];exact(gEs.1 e1).1
    | row t ty sz n ds=>obtain⟨x',e1,_⟩:=this;rw[q1];exact(gEs.1 e1).1
   have hal1:∀ a∈ar0,a.isRow=true→(al0++[bn])[a.t]?=some true:=fun a ha hrow=>by
    have:=hsub.2.2 a ha hrow
    rw[gAl (gEs.1 this).1];exact this
   refine⟨by simp;omega,fun t x ha hx=>?_,fun t t' x x' ha hx hx' hb=>?_,fun a ha=>?_,?_,fun t id hm=>?_⟩
   ·rcases hnew t x ha hx with⟨_,ha',hx'⟩ | ⟨_,hb,hy⟩
    ·obtain⟨hz,cs,k1,k2⟩:=q2 t x (hal t ha') hx'
     refine⟨hz,cs,?_,k2⟩
     rw[hkeep _ (hr.bags.tgs x (mOg hx')).1 fun y hy=>(hT y hy).2.2.2.2.2 t x ha' hx']
     exact k1
    ·exact(hT x hy).1 hb
   ·have hx2:=hsplit t' x' hx'
    rcases hnew t x ha hx with⟨ht,ha',hx1⟩ | ⟨ht,hbn,hy⟩
    ·rcases hx2 with⟨ht',hx2⟩ | ⟨ht',hy'⟩
     ·obtain⟨k1,k2⟩:=q3 t t' x x' (hal t ha') hx1 hx2 hb
      refine⟨k1,fun ha2=>k2 (hal t' ?_)⟩
      rw[gAl (by omega)] at ha2
      exact ha2
     ·exact absurd hb.symm ((hT x' hy').2.2.2.2.2 t x ha' hx1)
    ·rcases hx2 with⟨ht',hx2⟩ | ⟨ht',hy'⟩
     ·refine⟨((hT x hy).2.2.2.2.1 x' (mOg hx2) hb).2.2.1,fun ha2=>?_⟩
      rw[gAl (by omega)] at ha2
      exact absurd hb ((hT x hy).2.2.2.2.2 t' x' ha2 hx2)
     ·rw[hy] at hy'
      cases hy'
      exact⟨Nat.le_refl _,fun _=>by omega⟩
   ·rcases har with rfl | ⟨a0,rfl,e,hR,hbn⟩
    ·exact⟨harR a ha,(q4 a (hsub.1 a ha)).2.1,hal1 a ha⟩
    ·rcases List.mem_cons.1 ha with rfl | ha
     ·exact⟨hR hst,fun id hm=>by have:=hlt _ _ hm;omega,fun hrow=>by rw[e,←hlen,gAr (Nat.le_refl _),hbn hrow];simp⟩
     ·exact⟨harR a ha,(q4 a (hsub.1 a ha)).2.1,hal1 a ha⟩
   ·rcases har with rfl | ⟨a0,rfl,e,hR,_⟩
    ·exact hsub.2.1
    ·exact List.pairwise_cons.2 ⟨fun a ha=>by have:=hart a (hsub.1 a ha);omega,hsub.2.1⟩
   ·obtain⟨x,c,e1,e2,e3⟩:=q6 t id hm
    exact⟨x,c,hget t _ e1,e2,e3⟩
 ·by_cases hb':b<w.heap.size
  ·exact hr.apart b (hown b hb' hb) hz
  ·exact absurd (hr.old b hz) hb'
 ·have key:∀ (i:Nat) (o:Ob) (c:Nat),hp1[i]?=some o→o.live=true→M.l[i]?=some (some (b,c))→hp[i]?=some o:=fun i o c e1 e2 e3=>by
   rcases h1 i o e1 with rfl | ⟨_,e⟩ | ⟨rfl,rfl⟩
   ·cases e2
   ·exact e
   ·rw[hbm] at e3;cases e3
  exact hr.inj i j oi oj b c c' (key i oi c hi li mi) (key j oj c' hj lj mj) li lj mi mj
 ·rcases hmem x hx with hx | hx
  ·exact nLl (hr.bags.tgs x hx).1 g1
  ·exact(hT x hx).2.1
 ·rcases hmem x hx with hx | hx
  ·exact(hr.bags.tgs x hx).2 hz (hob _ h)
  ·exact(hT x hx).2.2.2.1 h
 ·have key:∀ (i:Nat) (a:List Bool) (ar:List Ar) (lt:List (Nat×Nat)),hp1[i]?=some (.bag a ar lt)→i=bg:=fun i a ar lt e=>by
   rcases h1 i _ e with h | ⟨_,h⟩ | ⟨h,_⟩
   ·cases h
   ·exact hr.bags.one _ _ _ _ _ _ _ _ h hbag
   ·exact h
  rw[key i a ar lt hi,key j a' ar' lt' hj]
 ·rcases hsplit t x hx with⟨_,hx⟩ | ⟨_,hx⟩
  ·obtain⟨id,h3⟩:=hr.bags.lnd bg al ar lt hbag t x hx (hob _ h)
   rcases h1 i _ hi with h4 | ⟨h5,h4⟩ | ⟨_,h4⟩
   ·cases h4
   ·exact absurd (hr.bags.one _ _ _ _ _ _ _ _ h4 hbag) h5
   ·cases h4;exact⟨id,h3⟩
  ·exact absurd h (hT x hx).2.2.2.1
 ·rcases hsplit t x hx with⟨ht,hx⟩ | ⟨ht,hx⟩
  ·rcases hsplit t' x' hx' with⟨ht',hx'⟩ | ⟨ht',hx'⟩
   ·exact hr.bags.hds t t' x x' hx hx' hz hb
   ·have:=((hT x' hx').2.2.2.2.1 x (mOg hx) hb.symm).1
    omega
  ·rcases hsplit t' x' hx' with⟨ht',hx'⟩ | ⟨ht',hx'⟩
   ·have:=((hT x hx).2.2.2.2.1 x' (mOg hx') hb).2.1
    omega
   ·omega
section
variable{P:Program}{Γ:TypeId→Option TI}{F N:Nat}{Q:GPost}{fr fr':Fr}{hp hp':List Ob}{ks:List Kt}
variable{ops:Array Oper}{rest:List Oper}{g:G}{α:Type}{enc:α→List D}
variable{d:Tmp}{op:Op}{ty:TypeId}{pos:String}{after:Array Edge}{gd:Option (Nat×Bool)}
theorem Kji{Z:Env}{M:Mp}{w:World}{bg t te tyo:TypeId}{i2:TI}{al al0:List Bool}{ar:List Ar}{lt:List (Nat×Nat)}{n m tg:Nat}{ds ys:List D}{sv xv:Value}(hΓ:TOK P Γ)(u1:P.underlying t=some (.slice te))(h2:Γ te=some i2)(hz:Nat.beq i2.zero.cells.size i2.size=true)(hz0:Nat.blt 0 i2.size=true)
  (hr:RelH Z hp M w) (hx:VD w (ownZ Z hp M) (.rt te i2.size tg n ds) sv) (hdl:ds.length=n * i2.size) (hy:VD w (ownZ Z hp M) (.ro m ys) xv) (hl:ys.length=m * i2.size) (hb:(n+m) * i2.bytes≤140737488355328) (hm:n+m≤maxLen) (hm0:0<m)
  (hbag:hp[bg]?=some (.bag al ar lt)) (htg:(tg=1∧al0=al)∨∃ q,tg=q+2∧al[q]?=some true∧al0=al.set q false) :
  ∃ (v':Value) (w':World) (gb c':Nat) (cur:Array Value),(Builtin.append_ #[t,t] tyo #[sv,xv]).run P w=.ok v' w'∧w.heap.size≤w'.heap.size∧w'.os=w.os∧w'.tape=w.tape∧w'.output=w.output∧v'=.slice (some ⟨gb,0,none⟩) (n+m) c'∧
   w'.heap[gb]?=some (.cells cur te (0,0))∧cur.size=c' * i2.size∧n+m≤c'∧c'≤maxLen∧(∀ (j:Nat) (dd:D),(ds++ys)[j]?=some dd→∃ u,cur[j]?=some u∧VD w (ownZ Z hp M) dd u)∧(∀ k,k<w.heap.size→k≠gb→w'.heap[k]?=w.heap[k]?)∧
   (w.heap.size≤gb∨∃ (q:Nat) (x:Tg),tg=q+2∧al[q]?=some true∧al0=al.set q false∧M.h[q]?=some (some x)∧x.b=gb∧x.n=n∧x.sz=i2.size∧∀ k,k<n * i2.size→w'.cell? ⟨gb,k,none⟩=w.cell? ⟨gb,k,none⟩):=by
 obtain⟨_,inf,e1,e2,e3,e4⟩:=hΓ te _ h2
 have hzs:i2.zero.cells.size=inf.size:=by rw[e2];exact nEq hz
 have hpos:0<i2.size:=nblt.1 hz0
 cases hx with
 | rt _ _ _ _ _ _ hx hT=>
 obtain⟨xb,xo,xc,news,rfl,hnl,hnc,hnv,hn1⟩:∃ (b off cap:Nat) (vs:List Value),xv=.slice (some ⟨b,off,none⟩) m cap∧vs.length=ys.length∧(∀ (j:Nat) (u:Value),vs[j]?=some u→w.cell? ⟨b,off+j,none⟩=some u)∧(∀ (j:Nat) (u:Value) (d:D),vs[j]?=some u→ys[j]?=some d→VD w (ownZ Z hp M) d u)∧∀ u∈vs,u.oneCell'=true:=by
  rcases Kab hy with⟨_,rfl,_⟩ | h
  ·omega
  ·exact h
 have hnews:∀ (cur:Array Value),(∀ j u,news[j]?=some u→cur[n * i2.size+j]?=some u)→∀ (j:Nat) (dd:D),ys[j]?=some dd→∃ u,cur[n * i2.size+j]?=some u∧VD w (ownZ Z hp M) dd u:=fun cur hc j dd hj=>by
  have hlt:j<news.length:=by rw[hnl];exact(gEs.1 hj).1
  have:=gGe hlt
  exact⟨_,hc j _ this,hnv j _ dd this hj⟩
 have hboth:∀ (cur:Array Value),(∀ (j:Nat) (dd:D),ds[j]?=some dd→∃ u,cur[j]?=some u∧VD w (ownZ Z hp M) dd u)→(∀ j u,news[j]?=some u→cur[n * i2.size+j]?=some u)→∀ (j:Nat) (dd:D),(ds++ys)[j]?=some dd→∃ u,cur[j]?=some u∧VD w (ownZ Z hp M) dd u:=fun cur h1 h2 j dd hj=>by
  by_cases hjd:j<ds.length
  ·rw[gAl hjd] at hj;exact h1 j dd hj
  ·rw[gAr (by omega)] at hj
   obtain⟨u,k1,k2⟩:=hnews cur h2 _ dd hj
   exact⟨u,by rw[←k1];congr 1;omega,k2⟩
 have nilCase:sv=.slice none 0 0→n=0→∃ (v':Value) (w':World) (gb c':Nat) (cur:Array Value),(Builtin.append_ #[t,t] tyo #[sv,.slice (some ⟨xb,xo,none⟩) m xc]).run P w=.ok v' w'∧w.heap.size≤w'.heap.size∧w'.os=w.os∧w'.tape=w.tape∧w'.output=w.output∧v'=.slice (some ⟨gb,0,none⟩) (n+m) c'∧
   w'.heap[gb]?=some (.cells cur te (0,0))∧cur.size=c' * i2.size∧n+m≤c'∧c'≤maxLen∧(∀ (j:Nat) (dd:D),(ds++ys)[j]?=some dd→∃ u,cur[j]?=some u∧VD w (ownZ Z hp M) dd u)∧(∀ k,k<w.heap.size→k≠gb→w'.heap[k]?=w.heap[k]?)∧w.heap.size≤gb:=by
  rintro rfl rfl
  obtain⟨v',w',mo',hrun,k1,k2,k3,k4,hres⟩:=Kac (P:=P) (tyo:=tyo) (n:=0) (m:=m) (cs0:=#[]) (sv:=.slice none 0 0) none u1 e1 e4 hzs (by rw[e2];exact hpos) (.inl ⟨rfl,rfl,rfl⟩) (.inr ⟨xb,xo,xc,rfl,hnc⟩) (by rw[hnl,hl,e2]) hn1 hm (by rw[e3];exact hb)
  rcases hres with⟨_,_,r3,_⟩ | ⟨b',c',cur,r1,r2,r3,r4,r5,r6,r7,r8,r9,r10⟩
  ·omega
  ·rcases r10 with⟨c,hc⟩ | r10
   ·cases hc
   ·have hds:ds=[]:=List.eq_nil_of_length_eq_zero (by simpa using hdl)
    subst hds
    exact⟨v',w',b',c',cur,hrun,k1,k2,k3,k4,r2,r3,by rw[r4,e2],r5,r6,hboth cur (fun j dd h=>by simp at h) (fun j u h=>by have:=r8 j u h;rw[e2] at this;exact this),r9,by omega⟩
 rcases htg with⟨rfl,rfl⟩ | ⟨q,rfl,hq,rfl⟩
 ·
  obtain⟨a,rfl,_⟩:=hT
  rcases Kab hx with⟨e,rfl,rfl⟩ | ⟨b,off,cap,vs,e,hvl,hvc,hvv,_⟩
  ·obtain⟨v',w',gb,c',cur,k1,k2,k3,k4,k5,k6,k7,k8,k9,k10,k11,k12,k13⟩:=nilCase e rfl
   exact⟨v',w',gb,c',cur,k1,k2,k3,k4,k5,k6,k7,k8,k9,k10,k11,k12,.inl k13⟩
  ·cases e
   obtain⟨v',w',r1,r2,r3⟩:=run_append_arg_grows (P:=P) w t tyo te inf i2.zero inf.size inf.bytes u1 e1 e4 rfl rfl hzs (by rw[e2];exact hpos) ⟨b,off,none⟩ n n vs (by rw[hvl,hdl,e2]) (fun j u hj=>by rw[Addr.add_lit];exact hvc j u hj) ⟨xb,xo,none⟩ m xc news (by rw[hnl,hl,e2]) (fun j u hj=>by rw[Addr.add_lit];exact hnc j u hj) (by omega) hm (by rw[e3];exact hb)
   rcases r2.2 with⟨rfl,hn0⟩ | ⟨gb,c',cur,rfl,q1,q2,q3,q4,q5,q6⟩
   ·omega
   ·have hcur:∀ j u,(vs++news)[j]?=some u→cur[j]?=some u:=fun j u hj=>by
     have hlt:=(gEs.1 hj).1
     rw[←q6,List.getElem?_take_of_lt (by rw[List.length_append,hvl,hnl,hdl,hl,←Nat.add_mul,←e2] at hlt;exact hlt)] at hj
     simpa using hj
    refine⟨_,w',gb,c',cur,r1,r3.size,r3.os,r3.tape,r3.output,rfl,q2,by rw[q5,e2],q3,q4,hboth cur (fun j dd hj=>?_) (fun j u hj=>?_),fun k hk hne=>r3.block k hk (by simp),.inl q1⟩
    ·have hlt:j<vs.length:=by rw[hvl];exact(gEs.1 hj).1
     have hv:=gGe hlt
     exact⟨_,hcur j _ (by rw[gAl hlt];exact hv),hvv j _ dd hv hj⟩
    ·refine hcur _ u ?_
     rw[gAr (by rw[hvl,hdl];omega),hvl,hdl]
     rw[←hj];congr 1;omega
 ·rcases hT with⟨hn,rfl⟩ | ⟨x,hxh,hxn,hxt,hxs,_,rfl⟩
  ·have:n=0:=by
    cases hx with
    | nil=>rfl
   obtain⟨v',w',gb,c',cur,k1,k2,k3,k4,k5,k6,k7,k8,k9,k10,k11,k12,k13⟩:=nilCase rfl this
   exact⟨v',w',gb,c',cur,k1,k2,k3,k4,k5,k6,k7,k8,k9,k10,k11,k12,.inl k13⟩
  ·subst hxn;subst hxt
   have hbl:bg<hp.length:=(gEs.1 hbag).1
   have e:M.l[bg]?=some (M.l[bg]'(by rw[hr.len];exact hbl)):=gGe _
   have hbo:=hr.obj bg _ _ hbag e
   obtain⟨cs0,c1,c2,c3,c4⟩:∃ cs:Array Value,w.heap[x.b]?=some (.cells cs x.t (0,0))∧cs.size=x.c * x.sz∧x.n≤x.c∧x.c≤maxLen:=by
    revert hbo
    cases M.l[bg]'(by rw[hr.len];exact hbl) with
    | none=>exact fun h=>(h.2.1 q x hq hxh).2
    | some _=>exact fun h=>h.elim
   obtain⟨v',w',mo',hrun,k1,k2,k3,k4,hres⟩:=Kac (P:=P) (tyo:=tyo) (n:=x.n) (m:=m) (cs0:=cs0) (sv:=.slice (some ⟨x.b,0,none⟩) x.n x.c) (some (x.b,x.c)) u1 e1 e4 hzs (by rw[e2];exact hpos) (.inr ⟨x.b,x.c,rfl,rfl,c1,by rw[c2,hxs,e2],c3,c4⟩) (.inr ⟨xb,xo,xc,rfl,hnc⟩) (by rw[hnl,hl,e2]) hn1 hm (by rw[e3];exact hb)
   have holds:∀ (j:Nat) (dd:D),ds[j]?=some dd→∃ u,cs0[j]?=some u∧VD w (ownZ Z hp M) dd u:=fun j dd hj=>by
    rcases Kab hx with⟨e,_⟩ | ⟨b,off,cap,vs,e,hvl,hvc,hvv,_⟩
    ·simp at e
    ·simp only[Value.slice.injEq,Option.some.injEq,Addr.mk.injEq] at e
     obtain⟨⟨e1,e2,_⟩,_⟩:=e
     subst e2
     have hlt:j<vs.length:=by rw[hvl];exact(gEs.1 hj).1
     have hv:=gGe hlt
     have:=hvc j _ hv
     rw[Nat.zero_add,←e1,cell_of_row w x.b j cs0 _ _ c1] at this
     exact⟨_,this,hvv j _ dd hv hj⟩
   rcases hres with⟨_,_,r3,_⟩ | ⟨b',c',cur,r1,r2,r3,r4,r5,r6,r7,r8,r9,r10⟩
   ·omega
   ·have hold':∀ (j:Nat) (dd:D),ds[j]?=some dd→∃ u,cur[j]?=some u∧VD w (ownZ Z hp M) dd u:=fun j dd hj=>by
     obtain⟨u,f1,f2⟩:=holds j dd hj
     have hlt:=(gEs.1 hj).1
     exact⟨u,by rw[r7 j (by rw[←e2] at hdl;omega) (by simp)];exact f1,f2⟩
    refine⟨v',w',b',c',cur,hrun,k1,k2,k3,k4,r2,r3,by rw[r4,e2],r5,r6,hboth cur hold' (fun j u h=>by have:=r8 j u h;rw[e2] at this;exact this),r9,?_⟩
    rcases r10 with⟨c,hc⟩ | r10
    ·cases hc
     refine .inr ⟨q,x,rfl,hq,rfl,hxh,rfl,rfl,hxs,fun k hk=>?_⟩
     rw[cell_of_row w' x.b k cur _ _ r3,cell_of_row w x.b k cs0 _ _ c1]
     exact r7 k (by rw[e2];exact hk) (by simp)
    ·exact .inl (by omega)
def appT{α:Type}(al:List Bool)(s:Tl α)(m:List α):Option (Tl α×List Bool):=
 bi (apd s.2 m) fun r=>bif m.isEmpty then some (s,al) else match s.1 with
  | 0=>none
  | 1=>some ((al.length+2,r),al++[true])
  | t+2=>bif (al[t]?).getD false then some ((al.length+2,r),al.set t false++[true]) else none
theorem Kjj{al al':List Bool}{s r:Tl α}{m:List α}(h:appT al s m=some (r,al')):apd s.2 m=some (s.2++m)∧((m=[]∧r=s∧al'=al)∨(m≠[]∧r=(al.length+2,s.2++m)∧∃ al0,al'=al0++[true]∧((s.1=1∧al0=al)∨∃ q,s.1=q+2∧al[q]?=some true∧al0=al.set q false))):=by
 unfold appT at h
 obtain⟨r0,hr,h⟩:=Kcp h
 obtain⟨rfl,hle⟩:=Kcu hr
 refine⟨hr,?_⟩
 cases m with
 | nil=>simp at h;exact .inl ⟨rfl,h.1.symm,h.2.symm⟩
 | cons y m=>
  right
  simp only[List.isEmpty_cons,cond_false] at h
  refine⟨by simp,?_⟩
  obtain⟨t,l⟩:=s
  match t,h with
  | 1,h=>simp at h;exact⟨h.1.symm,al,h.2.symm,.inl ⟨rfl,rfl⟩⟩
  | t+2,h=>
   simp only at h
   cases hc:(al[t]?).getD false with
   | false=>rw[hc] at h;cases h
   | true=>
    rw[hc] at h
    simp at h
    refine⟨h.1.symm,al.set t false,h.2.symm,.inr ⟨t,rfl,?_,rfl⟩⟩
    cases hq:al[t]? with
    | none=>rw[hq] at hc;cases hc
    | some b=>rw[hq] at hc;simp at hc;rw[hc]
theorem Kjk{w:World}{t te tyo:TypeId}{inf:TypeInfo}{n c:Nat}{a:Option Addr}{xv:Value}(hu:P.underlying t=some (.slice te))(hi:P.info? te=some inf)(hn:n≤c)(hx:(xv=.slice none 0 0)∨∃ b cap,xv=.slice (some b) 0 cap) :
  (Builtin.append_ #[t,t] tyo #[.slice a n c,xv]).run P w=.ok (.slice a n c) w:=by
 rcases hx with rfl | ⟨b,cap,rfl⟩
 ·cases a<;>simp[Builtin.append_,run_underlying hu,sizeOf,typeInfo,hi,Builtin.lenOf,Builtin.firstCells,hn,storeCells]
 ·cases a<;>simp[Builtin.append_,run_underlying hu,sizeOf,typeInfo,hi,Builtin.lenOf,Builtin.firstCells,loadCells,loadCellsFrom,hn,storeCells]
theorem Kjl{w:World}{O:Ow}{n:Nat}{xs:List D}{v:Value}(h:VD w O (.ro n xs) v):∃ a c,v=.slice a n c∧n≤c:=by
 cases h with
 | nil=>exact⟨_,_,rfl,Nat.le_refl _⟩
 | ro _ _ b off cap vs h3 h4 h5=>exact⟨_,_,rfl,h5⟩
theorem Kjm(hΓ:TOK P Γ){t te:TypeId}{i1 i2:TI}{x y:Operand}{bg:Nat}{s r:Tl α}{m:List α}{al al':List Bool}{ar:List Ar}{lt:List (Nat×Nat)}{hp2:List Ob}(hz:appT al s m=some (r,al'))(h1:Γ t=some i1)(h1':i1.desc=.slice te)(h2:Γ te=some i2)(hzc:Nat.beq i2.zero.cells.size i2.size=true)(hz0:Nat.blt 0 i2.size=true)
  (hx:fr.ev x=some (.d (Slt te i2.size enc s))) (hy:fr.ev y=some (.d (Sl enc m))) (hbag:hp[bg]?=some (.bag al ar lt)) (henc:∀ y,(enc y).length=i2.size) (hbytes:Nat.ble (4294967296 * i2.bytes) 140737488355328=true) (hhp:hp.set bg (.bag al' ar lt)=hp2) :
  OpS P N ⟨some d,.call ⟨.builtin .append,#[x,y],#[t,t]⟩,ty,pos,after,gd⟩ fr hp (.d (Slt te i2.size enc r)) hp2:=by
 subst hhp
 intro Z w M a hr
 obtain⟨u1,_⟩:=hΓ t _ h1
 rw[h1'] at u1
 have hvx:=hr.ev hx
 have hvy:=hr.ev hy
 obtain⟨hap,hcase⟩:=Kjj hz
 obtain⟨_,hle⟩:=Kcu hap
 generalize hvvx:a.eval x=vx at hvx
 generalize hvvy:a.eval y=vy at hvy
 cases hvx with
 | d hvx=>
 cases hvy with
 | d hvy=>
 have hb:=nBe hbytes
 have hmul:(s.2.length+m.length) * i2.bytes≤4294967296 * i2.bytes:=Nat.mul_le_mul_right _ hle
 rcases hcase with⟨rfl,rfl,rfl⟩ | ⟨hmne,rfl,al0,rfl,htg⟩
 ·obtain⟨_,inf,e1,e2,e3,e4⟩:=hΓ te _ h2
  have hset:hp.set bg (.bag al' ar lt)=hp:=by
   apply List.ext_getElem?
   intro j
   by_cases hj:bg=j
   ·subst hj;rw[gSs (gEs.1 hbag).1,hbag]
   ·rw[gSn hj]
  rw[hset]
  have hrun:(Builtin.append_ #[t,t] ty #[vx,vy]).run P w=.ok vx w:=by
   have hxx:∃ a' n' c',vx=.slice a' n' c'∧n'≤c':=by
    cases hvx with
    | rt _ _ _ _ _ _ hx' _=>exact let ⟨a',c',e,h⟩:=Kjl hx';⟨a',_,c',e,h⟩
   obtain⟨a',n',c',rfl,hn'⟩:=hxx
   refine Kjk u1 e1 hn' ?_
   rcases Kab hvy with⟨e,_⟩ | ⟨b,off,cap,vs,e,_⟩
   ·exact .inl e
   ·exact .inr ⟨_,_,e⟩
  exact⟨vx,w,M,by simp[execOp,resolve,invoke,builtin,hvvx,hvvy,hrun],hr.heap,.d hvx,.refl _ _,⟨Nat.le_of_eq hr.heap.len.symm,fun _ _=>rfl⟩⟩
 ·have hm0:0<m.length:=by cases m with
   | nil=>exact absurd rfl hmne
   | cons _ _=>simp
  obtain⟨v',w',gb,c',cur,k1,k2,k3,k4,k5,k6,k7,k8,k9,k10,k11,k12,k13⟩:=Kji (P:=P) (tyo:=ty) (bg:=bg) hΓ u1 h2 hzc hz0 hr.heap hvx (Kdf henc s.2) hvy (Kdf henc m) (by omega) (by simp only[maxLen];omega) hm0 hbag htg
  have hbl:bg<hp.length:=(gEs.1 hbag).1
  have hlen:al0.length=al.length:=by rcases htg with⟨_,rfl⟩ | ⟨q,_,_,rfl⟩<;>simp
  have hal:∀ t:Nat,al0[t]?=some true→al[t]?=some true:=fun t ht=>by
   rcases htg with⟨_,rfl⟩ | ⟨q,_,_,rfl⟩
   ·exact ht
   ·by_cases hqt:q=t
    ·subst hqt
     have hl:=(gEs.1 ht).1
     rw[gSs (by simpa using hl)] at ht
     cases ht
    ·rw[gSn hqt] at ht;exact ht
  have hobg:¬ obOwn (hp.set bg (.bag (al0++[true]) ar lt)) M gb:=by
   rintro⟨i,o,c,e1,e2,e3⟩
   have hold:hp[i]?=some o∧o.live=true:=by
    by_cases hi:bg=i
    ·subst hi
     exfalso
     have:=hr.heap.obj bg _ _ hbag e3
     exact this
    ·rw[gSn hi] at e1;exact⟨e1,e2⟩
   rcases k13 with h | ⟨q,x,_,_,_,hxh,rfl,_,hxs,_⟩
   ·have:=hr.heap.block_ob ⟨i,o,c,hold.1,hold.2,e3⟩;omega
   ·exact(hr.heap.bags.tgs x (mOg hxh)).2 (by rename_i hxs _;rw[hxs];exact nblt.1 hz0) ⟨i,o,c,hold.1,hold.2,e3⟩
  have hbo:al.length=M.h.length∧(∀ (t t':Nat) (x x':Tg),al[t]?=some true→M.h[t]?=some (some x)→M.h[t']?=some (some x')→x'.b=x.b→x'.n * x'.sz≤x.n * x.sz∧(al[t']?=some true→t'=t)):=by
   have e:M.l[bg]?=some (M.l[bg]'(by rw[hr.heap.len];exact hbl)):=gGe _
   have:=hr.heap.obj bg _ _ hbag e
   revert this
   cases M.l[bg]'(by rw[hr.heap.len];exact hbl) with
   | none=>exact fun h=>⟨h.1,h.2.2.1⟩
   | some _=>exact fun h=>h.elim
  obtain⟨r1,r2,r3⟩:=Kjh (hp1:=hp.set bg (.bag (al0++[true]) ar lt)) (al0:=al0) true (some ⟨gb,s.2.length+m.length,c',i2.size,te,false⟩) hr.heap hbag (by simp) (fun i o hi=>by
    by_cases hib:bg=i
    ·subst hib;rw[gSs hbl] at hi;cases hi;exact .inr (.inr ⟨rfl,rfl⟩)
    ·rw[gSn hib] at hi;exact .inr (.inl ⟨Ne.symm hib,hi⟩)) (gSs hbl) k2 k3 k4 k5 (fun k hk hne=>k12 k hk (hne _ rfl)) hlen hal (fun y hy=>by
    cases hy
    refine⟨fun _=>⟨nblt.1 hz0,cur,k7,k8,k9,k10⟩,(aEs.1 k7).1,fun hlt=>?_,hobg,fun x hx hxb=>?_,fun t x ht hx hxb=>?_⟩
    ·rcases k13 with h | ⟨q,x,_,_,_,hxh,hxb,_⟩
     ·have:gb<w.heap.size:=hlt;omega
     ·exact .inr ⟨⟨bg,al,ar,lt,hbag⟩,x,mOg hxh,hxb⟩
    ·rcases k13 with h | ⟨q,x0,_,hq,_,hxh,hxb0,hxn,hxs,hfz⟩
     ·have:=(hr.heap.bags.tgs x hx).1
      rw[hxb] at this
      exact absurd this (Nat.not_lt.2 h)
     ·obtain⟨t',ht'⟩:=List.getElem?_of_mem hx
      have hle2:=(hbo.2 q t' x0 x hq hxh ht' (hxb.trans hxb0.symm)).1
      have hmm:s.2.length * i2.size≤(s.2.length+m.length) * i2.size:=Nat.mul_le_mul_right _ (by omega)
      rw[hxn,hxs] at hle2
      have hz1:0<i2.size:=nblt.1 hz0
      have hzx:0<x.sz:=Nat.pos_of_ne_zero fun e=>by
       have:=hr.heap.bags.hds t' q x x0 ht' hxh e (hxb0.trans hxb.symm)
       subst this;rw[ht'] at hxh;cases hxh;omega
      refine⟨hzx,hz1,Nat.le_trans hle2 hmm,fun k hk=>?_⟩
      rw[hxb]
      exact hfz k (nLl hk hle2)
    ·rcases k13 with h | ⟨q,x0,_,hq,ha0,hxh,hxb0,_⟩
     ·have:=(hr.heap.bags.tgs x (mOg hx)).1
      rw[hxb] at this
      exact absurd this (Nat.not_lt.2 h)
     ·have hqt:=(hbo.2 q t x0 x hq hxh hx (hxb.trans hxb0.symm)).2 (hal t ht)
      subst hqt
      rw[ha0,gSs (gEs.1 hq).1] at ht
      cases ht) ar (Kjg hr.heap hbag hvx htg) (.inl rfl)
  refine⟨v',w',_,by simp[execOp,resolve,invoke,builtin,hvvx,hvvy,k1],r1,.d (.rt _ _ _ _ _ _ ?_ ?_),r2,r3⟩
  ·rw[k6]
   have hlr:(s.2++m).length=s.2.length+m.length:=List.length_append
   have hfl:((s.2++m).flatMap enc).length=(s.2.length+m.length) * i2.size:=by rw[Kdf henc,hlr]
   rw[hlr]
   refine .ro _ _ gb 0 c' (fun j=>cur.getD j undef) (aEs.1 k7).1 (fun j hj _=>⟨_,List.mem_append_right _ (List.mem_singleton.2 rfl),rfl,?_⟩) k9 k10 (fun j dd hj=>?_) (fun j dd hj=>?_)
   ·rw[hfl] at hj;simpa using hj
   ·rw[List.flatMap_append] at hj
    obtain⟨u,f1,_⟩:=k11 j dd hj
    rw[Nat.zero_add,cell_of_row w' gb j cur _ _ k7]
    simp[f1]
   ·rw[List.flatMap_append] at hj
    obtain⟨u,f1,f2⟩:=k11 j dd hj
    simpa [f1] using f2.step (Kob Z r2)
  ·refine .inr ⟨⟨gb,s.2.length+m.length,c',i2.size,te,false⟩,?_,by simp,rfl,rfl,rfl,by rw[k6];simp⟩
   show(M.h++[_])[al.length]?=_
   rw[hbo.1]
   simp
theorem Kjn{o:Oper}{g':G}(h:OpP P N o fr hp g)(hle:g.Le g'):OpP P N o fr hp g':=fun Z w M a hr=>let ⟨v,h1,h2⟩:=h Z w M a hr;⟨v,h1,hle _ _ _ _ h2⟩
theorem G.Le.unt{te:TypeId}{sz:Nat}{s:Tl α}:G.Le (.d (Slt te sz enc s)) (.d (Sl enc s.2)):=fun w O M v hv=>by
 cases hv with
 | d h=>cases h with
  | rt _ _ _ _ _ _ h _=>exact .d h
abbrev fTag(l:List α):Nat:=bif l.isEmpty then 0 else 1
theorem G.Le.tagF{te:TypeId}{sz:Nat}{l:List α}:G.Le (.d (Slf enc l)) (.d (Slt te sz enc (fTag l,l))):=fun w O M v hv=>by
 cases hv with
 | d h=>
  have h':=h.unrf
  cases h with
  | rf _ _ b off vs hb hO hm hc hv=>
   refine .d (.rt _ _ _ _ _ _ h' ?_)
   cases l with
   | nil=>trivial
   | cons y l=>exact⟨_,rfl,fun h=>by cases h⟩
theorem j_hp{c:Code}(hp2:List Ob)(h:hp=hp2)(k:St.holds P F N Q (.code c ks) fr hp2):St.holds P F N Q (.code c ks) fr hp:=by subst h;exact k
theorem Kjo{M:Fr→List Ob→Prop}(hp2:List Ob)(h:hp=hp2)(k:Cv F N M fr hp2):Cv F N M fr hp:=by subst h;exact k
section
variable{hpL:List Ob}{ll hl bl:List Nat}{k:Nat}{QF:Fr→List Ob→Prop}
end
end
end Go.Gk
namespace Go.Gk
def updA{α:Type}(k:Int)(j:Nat)(v a:α):α:=if k=(j:Int) then v else a
def updL{α:Type}(k:Int)(v:α):Nat→List α→List α
 | _,[]=>[]
 | j,a :: l=>updA k j v a :: updL k v (j+1) l
section
variable{P:Program}{Γ:TypeId→Option TI}{F N:Nat}{Q:GPost}{fr fr':Fr}{hp:List Ob}{ks:List Kt}
variable{α:Type}{enc:α→List D}{ops:Array Oper}{rest:List Oper}{g:G}
variable{d:Tmp}{op:Op}{ty:TypeId}{pos:String}{after:Array Edge}{gd':Option (Nat×Bool)}
def Rn(P:Program)(F N:Nat)(Q:GPost)(c:Code)(ks:List Kt):Nat→Fr→List Ob→Prop
 | 0=>fun _ _=>False
 | n+1=>fun fr hp=>St.holds P F N Q (.code c (.mid (Rn P F N Q c ks n) :: ks)) fr hp
end
end Go.Gk
namespace Go.Gk
def pf(ρ:List Nat)(i:Nat):Nat:=ρ.getD i i
def prmB(ρ σ:List Nat)(n0 n:Nat):Bool:=(List.range n).all (fun i=>Nat.blt (pf ρ i) n&&Nat.blt (pf σ i) n&&Nat.beq (pf σ (pf ρ i)) i&&Nat.beq (pf ρ (pf σ i)) i)&&(List.range n0).all fun i=>Nat.beq (pf ρ i) i
def prmObs(ρ σ:List Nat)(hp:List Ob):List Ob:=(List.range hp.length).map fun j=>(hp.getD (pf σ j) .dead).ren (pf ρ)
theorem Kjp{ρ σ:List Nat}{hp:List Ob}{j:Nat}{o:Ob}(h:(prmObs ρ σ hp)[j]?=some o)(hb:∀ i,i<hp.length→pf σ i<hp.length):j<hp.length∧∃ o0,hp[pf σ j]?=some o0∧o=o0.ren (pf ρ):=by
 unfold prmObs at h
 rw[gMp] at h
 obtain⟨q,hq,rfl⟩:=oMs.1 h
 have hj:j<hp.length:=by have:=(gEs.1 hq).1;simpa using this
 rw[List.getElem?_range hj] at hq
 cases hq
 refine⟨hj,hp[pf σ j]'(hb j hj),gGe _,?_⟩
 rw[List.getD_eq_getElem?_getD,gGe (hb j hj)]
 rfl
theorem Kjq{Z:Env}{hp:List Ob}{M:Mp}{w:World}(ρ σ:List Nat){n0:Nat}(hok:prmB ρ σ n0 hp.length=true)(hr:RelH Z hp M w) :
  ∃ M2,RelH Z (prmObs ρ σ hp) M2 w∧own (prmObs ρ σ hp) M2=own hp M∧(∀ i,i<M.l.length→M2.l[pf ρ i]?=M.l[i]?)∧M2.l.length=M.l.length∧M2.h=M.h∧∀ i,i<n0→pf ρ i=i:=by
 simp only[prmB,Bool.and_eq_true,List.all_eq_true,List.mem_range] at hok
 obtain⟨hok,h0⟩:=hok
 have lt1:∀ i,i<hp.length→pf ρ i<hp.length:=fun i hi=>nblt.1 (hok i hi).1.1.1
 have lt2:∀ i,i<hp.length→pf σ i<hp.length:=fun i hi=>nblt.1 (hok i hi).1.1.2
 have iv1:∀ i,i<hp.length→pf σ (pf ρ i)=i:=fun i hi=>nEq (hok i hi).1.2
 have iv2:∀ i,i<hp.length→pf ρ (pf σ i)=i:=fun i hi=>nEq (hok i hi).2
 have len:M.l.length=hp.length:=hr.len
 let M2:Mp:=⟨(List.range hp.length).map fun j=>M.l.getD (pf σ j) none,M.h⟩
 have hM2:∀ j,j<hp.length→M2.l[j]?=M.l[pf σ j]?:=fun j hj=>by
  show((List.range hp.length).map fun j=>M.l.getD (pf σ j) none)[j]?=_
  rw[gMp,List.getElem?_range hj]
  have h:=lt2 j hj
  rw[←len] at h
  simp[List.getD_eq_getElem?_getD,List.getElem?_eq_getElem h]
 have hM:∀ i,i<M.l.length→M2.l[pf ρ i]?=M.l[i]?:=fun i hi=>by
  rw[len] at hi
  rw[hM2 _ (lt1 i hi),iv1 i hi]
 have lv:∀ o:Ob,(o.ren (pf ρ)).live=o.live:=fun o=>by cases o<;>rfl
 have bg:∀ (o:Ob) al ar lt,o.ren (pf ρ)=.bag al ar lt→∃ lt0,o=.bag al ar lt0∧lt=Lt.ren (pf ρ) lt0:=fun o al ar lt h=>by cases o<;>first | (cases h;exact⟨_,rfl,rfl⟩) | cases h
 have get:=fun {j:Nat} {o:Ob} (h:(prmObs ρ σ hp)[j]?=some o)=>Kjp h lt2
 have mk:∀ (i:Nat) (o:Ob),hp[i]?=some o→(prmObs ρ σ hp)[pf ρ i]?=some (o.ren (pf ρ)):=fun i o h=>by
  have hi:=(gEs.1 h).1
  unfold prmObs
  rw[gMp,List.getElem?_range (lt1 i hi)]
  simp only[Option.map_some]
  rw[iv1 i hi,List.getD_eq_getElem?_getD,h]
  rfl
 have hob:∀ b,obOwn (prmObs ρ σ hp) M2 b ↔ obOwn hp M b:=fun b=>by
  constructor
  ·rintro⟨j,o,c,h1,h2,h3⟩
   obtain⟨hj,o0,h4,rfl⟩:=get h1
   rw[hM2 j hj] at h3
   exact⟨_,o0,c,h4,by rw[lv] at h2;exact h2,h3⟩
  ·rintro⟨i,o,c,h1,h2,h3⟩
   exact⟨pf ρ i,_,c,mk i o h1,by rw[lv];exact h2,(hM i (Mp.lt h3)).trans h3⟩
 have hbag:hasBag (prmObs ρ σ hp) ↔ hasBag hp:=by
  constructor
  ·rintro⟨j,al,ar,lt,h⟩
   obtain⟨_,o0,h4,h5⟩:=get h
   obtain⟨lt0,e,_⟩:=bg o0 al ar lt h5.symm
   exact⟨_,al,ar,lt0,by rw[h4,e]⟩
  ·rintro⟨i,al,ar,lt,h⟩
   exact⟨pf ρ i,al,ar,_,mk i _ h⟩
 have hown:own (prmObs ρ σ hp) M2=own hp M:=Knv (fun b=>or_congr (hob b) (and_congr hbag Iff.rfl)) rfl hbag
 have hownZ:ownZ Z (prmObs ρ σ hp) M2=ownZ Z hp M:=Koa (fun b=>by rw[hown]) rfl
 refine⟨M2,⟨by simp[M2,prmObs],fun j o m h1 h2=>?_,fun b hb=>?_,hr.old,hr.amb,fun i j oi oj b c c' hi hj li lj mi mj=>?_,⟨fun x hx=>?_,fun i j al al' ar ar' lt lt' hi hj=>?_,fun i al ar lt hi t x hx h=>?_,hr.bags.hds⟩⟩,hown,hM,by simp[M2,len],rfl,fun i hi=>nEq (h0 i hi)⟩
 ·obtain⟨hj,o0,h4,rfl⟩:=get h1
  rw[hM2 j hj] at h2
  rw[hownZ]
  exact(hr.obj _ o0 m h4 h2).rens hM rfl
 ·rw[hown] at hb;exact hr.apart b hb
 ·obtain⟨hi',o1,h4,rfl⟩:=get hi
  obtain⟨hj',o2,h5,rfl⟩:=get hj
  rw[hM2 i hi'] at mi
  rw[hM2 j hj'] at mj
  rw[lv] at li lj
  have:=hr.inj _ _ o1 o2 b c c' h4 h5 li lj mi mj
  rw[←iv2 i hi',←iv2 j hj',this]
 ·obtain⟨h1,h2⟩:=hr.bags.tgs x hx
  exact⟨h1,fun hz h=>h2 hz ((hob _).1 h)⟩
 ·obtain⟨hi',o1,h4,e1⟩:=get hi
  obtain⟨hj',o2,h5,e2⟩:=get hj
  obtain⟨lt0,k1,_⟩:=bg o1 al ar lt e1.symm
  obtain⟨lt1,k2,_⟩:=bg o2 al' ar' lt' e2.symm
  have:=hr.bags.one _ _ al al' ar ar' lt0 lt1 (by rw[h4,k1]) (by rw[h5,k2])
  rw[←iv2 i hi',←iv2 j hj',this]
 ·obtain⟨hi',o1,h4,e1⟩:=get hi
  obtain⟨lt0,k1,k2⟩:=bg o1 al ar lt e1.symm
  obtain⟨id,h5⟩:=hr.bags.lnd _ al ar lt0 (by rw[h4,k1]) t x hx ((hob _).1 h)
  exact⟨_,by rw[k2];exact Lt.mem_ren.2 ⟨id,h5,rfl⟩⟩
def ocat{α:Type}(f:Nat→Option (List α)):List Nat→Option (List α)
 | []=>some []
 | i :: r=>match f i with
  | some a=>match ocat f r with
   | some b=>some (a++b)
   | none=>none
  | none=>none
theorem Kjr{α:Type}{f:Nat→Option (List α)}:∀ {r:List Nat} {l:List α},ocat f r=some l→∀ i∈r,∃ a,f i=some a∧∀ x∈a,x∈l
 | [],l,h,i,hi=>by cases hi
 | j :: r,l,h,i,hi=>by
  unfold ocat at h
  cases hf:f j with
  | none=>rw[hf] at h;cases h
  | some a=>
   rw[hf] at h
   cases hr:ocat f r with
   | none=>rw[hr] at h;cases h
   | some b=>
    rw[hr] at h
    cases h
    rcases List.mem_cons.1 hi with rfl | hi
    ·exact⟨a,hf,fun x hx=>List.mem_append_left _ hx⟩
    obtain⟨c,h1,h2⟩:=Kjr hr i hi
    exact⟨c,h1,fun x hx=>List.mem_append_right _ (h2 x hx)⟩
def bxOf(bx:List (Nat×List Nat))(k:Nat):List Nat:=match bx with
 | []=>[]
 | e :: r=>bif Nat.beq e.1 k then e.2 else bxOf r k
def bldSt(Γ:TypeId→Option TI)(fr:Fr)(xs:List Nat):Op→Option G
 | .build t parts=>match Γ t with
  | some ⟨.struct fs,a,b,z⟩=>bif (fs.toList.all fun f=>(Γ f.type).isSome)&&(z.cells.toList.all (·.oneCell')) then
    (evParts fr parts.toList).bind fun pg=>(fillG (placesG Γ fs) (zeroX xs ⟨.struct fs,a,b,z⟩) pg).map .agg
   else none
  | _=>none
 | _=>none
def xstep(Γ:TypeId→Option TI)(N:Nat)(hpL:List Ob)(ll:List Nat)(bx:List (Nat×List Nat))(full:Array Oper)(k:Nat)(fr:Fr)(o:Oper):Option Fr:=match o with
 | ⟨some d,.build t parts,ty,pos,after,none⟩=>bif Nat.blt d N then(bldSt Γ (fr.only (Oper.looksAt full ⟨some d,.build t parts,ty,pos,after,none⟩)) (bxOf bx k) (.build t parts)).map fun g=>(d,g) :: fr else none
 | _=>estep Γ N hpL ll [] full k fr o
def deadB(hpL:List Ob)(id:Nat):Bool:=match hpL[id]? with
 | some o=>!o.live
 | none=>true
def hst(Γ:TypeId→Option TI)(N:Nat)(hpL:List Ob)(full:Array Oper)(fr:Fr)(hp:List Ob):Oper→Option (Fr×List Ob)
 | ⟨some d,.box t x,ty,pos,after,none⟩=>bif Nat.blt d N then((fr.only (Oper.looksAt full ⟨some d,.box t x,ty,pos,after,none⟩)).ev x).bind fun g=>(cellsG g).bind fun gs=>bif gs.all G.one then some ((d,.ptr hp.length 0) :: fr,hp++[.box t gs]) else none else none
 | ⟨some d,.buildSlice t len parts,ty,pos,after,none⟩=>match Γ t with
  | some ⟨.slice e,_,_,_⟩=>match Γ e with
   | some i2=>bif Nat.blt d N&&(i2.zero.cells.toList.all (·.oneCell'))&&Nat.blt 0 i2.zero.cells.size&&Nat.ble (len * i2.size) 16777216&&Nat.ble len 16777216 then
     (evParts (fr.only (Oper.looksAt full ⟨some d,.buildSlice t len parts,ty,pos,after,none⟩)) parts.toList).bind fun pg=>(fillG (fun i=>some (i * i2.size,i2.size)) (zerosG i2 len) pg).bind fun gs=>(toDs gs).bind fun ds=>some ((d,.sl hp.length len) :: fr,hp++[.row e i2.size len ds])
    else none
   | none=>none
  | _=>none
 | ⟨none,.store t x y,ty,pos,after,none⟩=>match Γ t with
  | some i=>match (fr.only (Oper.looksAt full ⟨none,.store t x y,ty,pos,after,none⟩)).ev x with
   | some (.ptr id off)=>match hp[id]? with
    | some (.box tb gs)=>((fr.only (Oper.looksAt full ⟨none,.store t x y,ty,pos,after,none⟩)).ev y).bind fun g=>(cellsG g).bind fun new=>
      bif new.all G.one&&Nat.beq new.length i.size&&Nat.ble (off+new.length) gs.length&&deadB hpL id then some (fr,hp.set id (.box tb (setAt gs off new))) else none
    | _=>none
   | _=>none
  | none=>none
 | _=>none
def anyR(Γ:TypeId→Option TI)(N:Nat)(hpL:List Ob)(ll hl:List Nat)(bx:List (Nat×List Nat))(ops:Array Oper):Nat→Array Bool→Fr→List Ob→Option (List (Fr×List Ob))
 | 0,listed,fr,hp=>match Region.ready .any ops listed with
  | []=>some [(fr,hp)]
  | _ :: _=>none
 | fuel+1,listed,fr,hp=>match Region.ready .any ops listed with
  | []=>some [(fr,hp)]
  | i0 :: r=>match (i0 :: r).find? fun i=>!(inL hl i) with
   | some i=>match ops[i]? with
    | none=>none
    | some o=>bif Region.free .any ops listed i then match xstep Γ N hpL ll bx ops i fr o with
     | some fr'=>anyR Γ N hpL ll hl bx ops fuel (listed.setIfInBounds i true) fr' hp
     | none=>none
     else none
   | none=>ocat (fun i=>match ops[i]? with
     | none=>none
     | some o=>match hst Γ N hpL ops fr hp o with
      | some s=>anyR Γ N hpL ll hl bx ops fuel (listed.setIfInBounds i true) s.1 s.2
      | none=>none) (i0 :: r)
section
variable{P:Program}{Γ:TypeId→Option TI}{F N:Nat}{Q:GPost}{fr fr':Fr}{hp hp' hpL:List Ob}{ks:List Kt}{ll hl:List Nat}{bx:List (Nat×List Nat)}
variable{ops:Array Oper}
theorem Kjs(hΓ:TOK P Γ){d:Tmp}{t:TypeId}{parts:Array (Nat×Operand)}{ty:TypeId}{pos:String}{after:Array Edge}{gd':Option (Nat×Bool)}{g:G}{xs:List Nat}(h:bldSt Γ fr xs (.build t parts)=some g):OpP P N ⟨some d,.build t parts,ty,pos,after,gd'⟩ fr hp g:=by
 simp only[bldSt] at h
 split at h
 ·rename_i fs a b z h1
  cases hc:((fs.toList.all fun f=>(Γ f.type).isSome)&&(z.cells.toList.all (·.oneCell'))) with
  | false=>rw[hc] at h;cases h
  | true=>
   rw[hc] at h
   simp only[Bool.and_eq_true] at hc
   simp only[cond_true] at h
   obtain⟨pg,hp1,h2⟩:=Option.bind_eq_some_iff.1 h
   obtain⟨gs,hf,rfl⟩:=oMs.1 h2
   exact Khh hΓ xs h1 rfl hc.1 hc.2 hp1 hf
 cases h
theorem Kjt{k:Nat}:∀ j,¬ NewOp (inL []) k j:=fun j ⟨_,h⟩=>by simp[inL] at h
theorem Kju(hΓ:TOK P Γ){k:Nat}{o:Oper}{hp:List Ob}(h:xstep Γ N hpL ll bx ops k fr o=some fr'):∃ x g,YE P N hpL (inL ll) (inL hl) (inL []) ops k o fr.get hp x g hp∧fr'.get=FF.put fr.get x g:=by
 unfold xstep at h
 split at h
 ·rename_i d t parts ty pos after
  cases hd:Nat.blt d N with
  | false=>rw[hd] at h;cases h
  | true=>
   rw[hd] at h
   obtain⟨g,hg,rfl⟩:=oMs.1 h
   refine⟨some d,g,.inl ⟨⟨fun d' h=>by cases h;exact nblt.1 hd,.inr ⟨.inl rfl,_,fun t g' h=>Fr.only_get h,fun hp _=>Kfo (qt_p (Kjs hΓ hg))⟩⟩,rfl,rfl,Kjt⟩,?_⟩
   rw[Fr.get_cons]
   rfl
 have key:GE P N hpL ll hl [] ops (fun fr'' hp''=>fr''.get=fr'.get∧hp''=hp) k [o] fr hp:=Kfx hΓ h (Kfm ⟨rfl,rfl⟩)
 obtain⟨x,g,hp',h1,fr'',h2,h3,rfl⟩:=key
 exact⟨x,g,h1,by rw[←h3,h2]⟩
theorem Kjv{o:Ob}(h:Stays hpL hp):Stays hpL (hp++[o]):=fun i q h1 h2=>by
 have:=h i q h1 h2
 rw[gAl (gEs.1 this).1]
 exact this
theorem Kjw{o:Ob}{id:Nat}(hd:deadB hpL id=true)(h:Stays hpL hp):Stays hpL (hp.set id o):=fun i q h1 h2=>by
 have hne:id≠i:=fun e=>by
  subst e
  unfold deadB at hd
  rw[h1] at hd
  simp[h2] at hd
 rw[gSn hne]
 exact h i q h1 h2
theorem Kjx(hΓ:TOK P Γ){d:Tmp}{ty:TypeId}{pos:String}{after:Array Edge}{gd':Option (Nat×Bool)}{t e:TypeId}{len:Nat}{i1 i2:TI}{parts:Array (Nat×Operand)}{pg:List (Nat×G)}{gs:List G}{ds:List D}(h1:Γ t=some i1)(h1':i1.desc=.slice e)(h2:Γ e=some i2)
  (hz:(i2.zero.cells.toList.all (·.oneCell'))=true) (hz':Nat.blt 0 i2.zero.cells.size=true) (hlen:Nat.ble (len * i2.size) 16777216=true) (hlen':Nat.ble len 16777216=true) (hp':evParts fr parts.toList=some pg) (hf:fillG (fun i=>some (i * i2.size,i2.size)) (zerosG i2 len) pg=some gs) (hds:toDs gs=some ds) :
  OpS P N ⟨some d,.buildSlice t len parts,ty,pos,after,gd'⟩ fr hp (.sl hp.length len) (hp++[.row e i2.size len ds]):=fun Z w M a hr=>by
 obtain⟨cs,r1,r2,r3,r4⟩:=Kai hΓ hr h1 h1' h2 hz hz' hlen hp' hf
 have hgs:=Kae hds
 have hlen'':len≤maxLen:=by have:=nBe hlen';simp only[maxLen];omega
 have hdl:ds.length=len * i2.size:=by rw[←r3,hgs];simp
 obtain⟨f1,f2,f3⟩:=Kqc hr.heap (.row e i2.size len ds) cs e len fun w' O' hst hh=>⟨hdl,cs,hh,by rw[r2,r3],Nat.le_refl _,hlen'',fun j dd hj=>by
  obtain⟨v,e1,e2,e3⟩:=r4 j (.d dd) (by rw[hgs,gMp,hj];rfl)
  cases e3 with
  | d h=>exact⟨v,e1,h.step hst⟩⟩
 refine⟨_,_,_,by simp[execOp,r1];rfl,f1,.sl (c:=len) ?_ (Nat.le_refl _) hlen'',f2,f3⟩
 rw[←hr.heap.len];simp
theorem Kjy(hΓ:TOK P Γ){k:Nat}{o:Oper}{hp:List Ob}{s:Fr×List Ob}(hk:inL hl k=true)(h:hst Γ N hpL ops fr hp o=some s):(∃ x g,YE P N hpL (inL ll) (inL hl) (inL []) ops k o fr.get hp x g s.2∧s.1.get=FF.put fr.get x g)∧(Stays hpL hp→Stays hpL s.2):=by
 unfold hst at h
 split at h
 ·rename_i d t y ty pos after
  cases hd:Nat.blt d N with
  | false=>rw[hd] at h;cases h
  | true=>
   rw[hd] at h
   simp only[cond_true] at h
   obtain⟨g,hg,h2⟩:=Option.bind_eq_some_iff.1 h
   obtain⟨gs,hgs,h3⟩:=Option.bind_eq_some_iff.1 h2
   cases ho:gs.all G.one with
   | false=>rw[ho] at h3;cases h3
   | true=>
    rw[ho] at h3
    cases h3
    refine⟨⟨some d,.ptr hp.length 0,.inr (.inr (.inl ⟨hk,⟨fun d' h=>by cases h;exact nblt.1 hd,.inl rfl,by simp,_,fun t g' h=>Fr.only_get h,Kfy (Kge hg hgs ho)⟩,rfl,Kjt,fun _=>Kjv⟩)),?_⟩,Kjv⟩
    rw[Fr.get_cons]
    rfl
 ·rename_i d t len parts ty pos after
  split at h
  ·rename_i e a b z h1
   split at h
   ·rename_i i2 h2
    cases hc:(Nat.blt d N&&(i2.zero.cells.toList.all (·.oneCell'))&&Nat.blt 0 i2.zero.cells.size&&Nat.ble (len * i2.size) 16777216&&Nat.ble len 16777216) with
    | false=>rw[hc] at h;cases h
    | true=>
     rw[hc] at h
     simp only[Bool.and_eq_true] at hc
     simp only[cond_true] at h
     obtain⟨⟨⟨⟨c1,c2⟩,c3⟩,c4⟩,c5⟩:=hc
     obtain⟨pg,hp1,h3⟩:=Option.bind_eq_some_iff.1 h
     obtain⟨gs,hf,h4⟩:=Option.bind_eq_some_iff.1 h3
     obtain⟨ds,hds,h5⟩:=Option.bind_eq_some_iff.1 h4
     cases h5
     refine⟨⟨some d,.sl hp.length len,.inr (.inr (.inl ⟨hk,⟨fun d' h=>by cases h;exact nblt.1 c1,.inl rfl,by simp,_,fun t g' h=>Fr.only_get h,Kfy (Kjx hΓ h1 rfl h2 c2 c3 c4 c5 hp1 hf hds)⟩,rfl,Kjt,fun _=>Kjv⟩)),?_⟩,Kjv⟩
     rw[Fr.get_cons]
     rfl
   cases h
  cases h
 ·rename_i t x y ty pos after
  split at h
  ·rename_i i h1
   split at h
   ·rename_i id off hx
    split at h
    ·rename_i tb gs ho
     obtain⟨g,hy,h2⟩:=Option.bind_eq_some_iff.1 h
     obtain⟨new,hg,h3⟩:=Option.bind_eq_some_iff.1 h2
     cases hc:(new.all G.one&&Nat.beq new.length i.size&&Nat.ble (off+new.length) gs.length&&deadB hpL id) with
     | false=>rw[hc] at h3;cases h3
     | true=>
      rw[hc] at h3
      simp only[Bool.and_eq_true] at hc
      cases h3
      obtain⟨⟨⟨c1,c2⟩,c3⟩,c4⟩:=hc
      exact⟨⟨none,.junk,.inr (.inr (.inl ⟨hk,⟨(fun d' h=>by cases h),.inl rfl,by simp,_,fun t g' h=>Fr.only_get h,Kfz (Kgg hΓ h1 hx ho hy hg c1 c2 c3)⟩,rfl,Kjt,fun _=>Kjw c4⟩)),rfl⟩,Kjw c4⟩
    cases h
   cases h
  cases h
 cases h
theorem Kjz:Ord0 .any ops (inL ll) (inL hl) (inL []) where
 lb i j _ h:=by simp[inL] at h
 nb i j h:=absurd h (Kjt j)
 nd i j _ _ h:=absurd h (Kjt j)
 n1 i j _ h:=absurd h (Kjt j)
 n2 i _ j h:=absurd h (Kjt j)
def LeafOk(n0:Nat)(s:Fr×List Ob)(p:List Nat×List Nat)(fr0:Fr)(hp0:List Ob):Prop:=
 prmB p.1 p.2 n0 s.2.length=true∧prmObs p.1 p.2 s.2=hp0∧fr0.map (fun e=>(Fr.get s.1 e.1).map (G.ren (pf p.1)))=fr0.map fun e=>some e.2
def leafN(n0:Nat)(T:List Nat)(s:Fr×List Ob)(p:List Nat×List Nat):Bool×List (Option G)×List Ob:=(prmB p.1 p.2 n0 s.2.length,T.map fun t=>(Fr.get s.1 t).map (G.ren (pf p.1)),prmObs p.1 p.2 s.2)
def leavesN(n0:Nat)(T:List Nat):List (Fr×List Ob)→List (List Nat×List Nat)→List (Bool×List (Option G)×List Ob)
 | [],_=>[]
 | s :: ss,p :: ps=>leafN n0 T s p :: leavesN n0 T ss ps
 | _ :: _,[]=>[(false,[],[])]
theorem Kka{n0:Nat}{fr0:Fr}{hp0:List Ob}:∀ {ss:List (Fr×List Ob)} {ps:List (List Nat×List Nat)},(∀ x∈leavesN n0 (fr0.map (·.1)) ss ps,x=(true,fr0.map (fun e=>some e.2),hp0))→∀ s∈ss,∃ p,LeafOk n0 s p fr0 hp0
 | [],_,_,s,hs=>by cases hs
 | s0 :: ss,p :: ps,h,s,hs=>by
  rcases List.mem_cons.1 hs with rfl | hs
  ·have:=h _ mCs
   unfold leafN at this
   have h1:=Prod.mk.inj this
   have h2:=Prod.mk.inj h1.2
   refine⟨p,h1.1,h2.2,?_⟩
   rw[←h2.1,List.map_map]
   rfl
  exact Kka (fun x hx=>h x (mCo _ hx)) s hs
 | _ :: _,[],h,_,_=>by
  have:=h _ mCs
  cases this
theorem Kkb{f:Nat→Option G}:∀ {fr0:Fr} {t:Nat} {g:G},fr0.map (fun e=>f e.1)=fr0.map (fun e=>some e.2)→fr0.get t=some g→f t=some g
 | [],t,g,_,h=>by cases h
 | (t0,g0) :: r,t,g,hm,h=>by
  simp only[List.map_cons,List.cons.injEq] at hm
  simp only[Fr.get] at h
  cases hb:Nat.beq t0 t with
  | true=>
   rw[hb] at h
   cases h
   obtain rfl:=nEq hb
   exact hm.1
  | false=>rw[hb] at h;exact Kkb hm.2 h
variable{fop:Operand}{args:Array Operand}{ts:Array TypeId}{f:FuncId}{g1 g2 gs gs':List G}
theorem Kkc{dst:Option Tmp}{ty:TypeId}{pos:String}{after:Array Edge}{gd':Option (Nat×Bool)}{r:G}(hcl:Callable P f)(hc:Pure P f gs r)(hf:fr.ev fop=some (.fn (.func f) g1 g2))(ha:args.toList.mapM fr.ev=some gs')(hgs:(g1++gs'++g2).map (G.lend hp)=gs)
  (hbl:G.belAll 0 gs=true) (hpl:r.plain=true):QtE P N ⟨dst,.call ⟨.value fop,args,ts⟩,ty,pos,after,gd'⟩ fr hp r hp:=fun Z w M a hr K Q hK=>by
 subst hgs
 obtain⟨vs,hrun,l,rr⟩:=Kpy (ts:=ts) (ty:=ty) (pos:=pos) (after:=after) (c:=hp) hr hf ha hcl dst
 have hrun':(execOp a.eval ⟨dst,.call ⟨.value fop,args,ts⟩,ty,pos,after,gd'⟩).run P w=.ok (.enter f vs) w:=hrun
 unfold Oper.wp
 rw[hrun',Oper.upon_enter]
 refine(EC.lend hc hbl hpl Z w M vs hr.heap l rr).mono ?_
 rintro e w' ⟨v,g,hp',M',rfl,⟨rfl,rfl⟩,h1,h2,h3,h4⟩
 exact hK v w' M' h1 h2 h3 h4
theorem EC.lendRow{te:TypeId}{sz n:Nat}{ds:List D}(h:EC P f (gs.map (G.lend hp)) [] fun g hp'=>g=.sl 0 n∧hp'=[.row te sz n ds])(hbl:G.belAll 0 (gs.map (G.lend hp))=true)(hpl:∀ d∈ds,∃ v,d=.v v) :
  EC P f gs hp fun g hp'=>g=.sl hp.length n∧hp'=hp++[.row te sz n ds]:=by
 intro Z w M vs hrel hsz hvs
 let Z0:Env:=⟨fun b=>(own hp M b∨Z.z b)∧¬ ((lentB hp M gs b)∧own hp M b),fun b=>ownZ Z hp M b∧¬ ((lentB hp M gs b)∧own hp M b),fun b h=>⟨h.1.imp id (Z.hv b),h.2⟩,fun w'=>Z.x w',fun w1 w2 hk hx=>Z.st w1 w2 (fun b hb=>hk b ⟨.inr hb,fun ⟨_,h⟩=>hrel.apart b h hb⟩) hx,Z.ax⟩
 have hO0:∀ b,ownZ Z0 [] ⟨[],M.h⟩ b→ownZ Z hp M b:=fun b hb=>by
  rcases hb with h1 | hb
  ·exact absurd h1 Knu
  ·exact hb.1
 have h0:RelH Z0 [] ⟨[],M.h⟩ w:=⟨rfl,fun i o m h=>by simp at h,fun b h=>absurd h Knu,fun b hb=>by
  rcases hb.1 with h | h
  ·exact hrel.block_lt h
  ·exact hrel.old b h,hrel.amb,fun i j oi oj b c c' h=>by simp at h,⟨fun x hx=>⟨(hrel.bags.tgs x hx).1,fun _=>Kns⟩,fun i j al al' ar ar' lt lt' h=>by simp at h,fun i al ar lt h=>by simp at h,hrel.bags.hds⟩⟩
 have hst:Stp w (ownZ Z hp M) w (ownZ Z0 [] ⟨[],M.h⟩):=.still (fun b _ hb=>hO0 b hb) rfl (fun g=>g)
 have key:∀ (j:Nat) (g:G) (v:Value),gs[j]?=some g→vs[j]?=some v→(g.lend hp).bel 0=true→VR w (ownZ Z0 [] ⟨[],M.h⟩) ⟨[],M.h⟩ (g.lend hp) v:=fun j g v hg hv hb=>by
  have h1:=hvs j g v hg hv
  by_cases hsl:∃ id n,g=.sl id n∧∃ t sz m ds,hp[id]?=some (.row t sz m ds)
  ·obtain⟨id,n,rfl,t,sz,m,ds,ho⟩:=hsl
   have e:(G.sl id n).lend hp=.d (.ro n ds):=by simp[G.lend,ho]
   rw[e]
   cases h1 with
   | slnil hM=>
    have:=hrel.obj id _ _ ho hM
    obtain⟨rfl,_⟩:=this
    exact .d .nil
   | sl hM hn hm=>
    rename_i b c
    obtain⟨_,cs,hblk,hcs,hnc,hcm,hdata⟩:=hrel.obj id _ _ ho hM
    have hown:own hp M b:=.inl ⟨id,_,c,ho,rfl,hM⟩
    have hcell:∀ j d,ds[j]?=some d→w.cell? ⟨b,0+j,none⟩=some (cs.getD j undef):=fun j d hd=>by
     obtain⟨u,e1,_⟩:=hdata j d hd
     rw[Nat.zero_add,cell_of_row w b j cs _ _ hblk]
     simp[e1]
    refine .d (.ro n ds b 0 c (fun j=>cs.getD j undef) (hrel.block_lt hown) ?_ hn hm hcell (fun j d hd=>?_))
    ·refine fun _ _ hbad=>absurd hbad ?_
     rintro(h1 | hb)
     ·exact Knu h1
     ·exact hb.2 ⟨⟨j,id,n,c,hg,hM⟩,hown⟩
    ·obtain⟨u,e1,e2⟩:=hdata j d hd
     simpa [e1] using e2.step hst
  ·have e:g.lend hp=g:=by
    cases g<;>try rfl
    rename_i id n
    simp only[G.lend]
    split
    ·rename_i t sz m ds ho
     exact absurd ⟨id,n,rfl,t,sz,m,ds,ho⟩ hsl
    ·rfl
   rw[e] at hb ⊢
   exact h1.move (k:=0) hst (fun i hi=>by omega) hb
 refine(h Z0 w ⟨[],M.h⟩ vs h0 (by simpa using hsz) (fun j g v hg hv=>?_)).mono ?_
 ·rw[gMp] at hg
  obtain⟨g0,hg0,rfl⟩:=oMs.1 hg
  exact key j g0 v hg0 hv (G.belAll_spec.1 hbl j _ (by rw[gMp,hg0];rfl))
 ·rintro e w' ⟨v,g,hp',M',rfl,⟨rfl,rfl⟩,h1,h2,h3,h4⟩
  have hkeep:∀ b,b<w.heap.size→w'.heap[b]?=w.heap[b]?:=fun b hb=>h3.keep b hb Knu
  have hs:Stp w (own hp M) w' (own hp M):=.mk' h3.size (fun b hb _=>hkeep b hb) (fun _ _ h=>h) h3.os h3.tape h3.output rfl (fun g=>g) fun x hx _=>hkeep _ (hrel.bags.tgs x hx).1
  have hl1:M'.l.length=1:=h1.len
  obtain⟨x,hx⟩:∃ x,M'.l=[x]:=by
   match hM:M'.l,hl1 with
   | [x],_=>exact⟨x,rfl⟩
  have hx0:M'.l[0]?=some x:=by rw[hx];rfl
  have hrow:=h1.obj 0 _ x rfl hx0
  have hnew:∀ b c,x=some (b,c)→w.heap.size≤b:=fun b c e=>by
   subst e
   rcases Nat.lt_or_ge b w.heap.size with hb | hb
   ·exact absurd (h3.own b hb (.inl ⟨0,_,c,rfl,rfl,hx0⟩)) Knu
   ·exact hb
  have hMe:∀ i,i<M.l.length→(M.app [x]).l[i]?=M.l[i]?:=fun i hi=>gAl hi
  have hob:∀ b,obOwn (hp++[.row te sz n ds]) (M.app [x]) b→obOwn hp M b∨∃ c,x=some (b,c):=by
   rintro b ⟨i,o,c,e1,e2,e3⟩
   rcases Kqb e3 with⟨hi,e4⟩ | ⟨_,e4⟩
   ·rw[gAl (by rw[←hrel.len];exact hi)] at e1
    exact .inl ⟨i,o,c,e1,e2,e4⟩
   ·exact .inr ⟨c,e4⟩
  have hown:∀ b,b<w.heap.size→own (hp++[.row te sz n ds]) (M.app [x]) b→own hp M b:=by
   rintro b hb (hb1 | ⟨hg,y,hy,e⟩)
   ·rcases hob b hb1 with h | ⟨c,e⟩
    ·exact .inl h
    ·have:=hnew b c e;omega
   ·exact .inr ⟨hg.of (Kny rfl),y,hy,e⟩
  have hs2:Stp w (own hp M) w' (own (hp++[.row te sz n ds]) (M.app [x])):=.mk' h3.size (fun b hb _=>hkeep b hb) hown h3.os h3.tape h3.output rfl (fun g=>g.of (Kny rfl)) fun x hx _=>hkeep _ (hrel.bags.tgs x hx).1
  have hplain:∀ (d:D) (u:Value) (w1 w2:World) (O1 O2:Ow),d∈ds→VD w1 O1 d u→VD w2 O2 d u:=fun d u w1 w2 O1 O2 hd hv=>by
   obtain⟨y,rfl⟩:=hpl d hd
   cases hv with
   | v _ h=>exact .v _ h
  have hlt:∀ b c,x=some (b,c)→b<w'.heap.size:=fun b c e=>by
   subst e
   obtain⟨_,cs,e1,_⟩:=hrow
   exact(aEs.1 e1).1
  have hobx:∀ y:Tg,some y∈M.h→obOwn (hp++[.row te sz n ds]) (M.app [x]) y.b→obOwn hp M y.b:=fun y hy hb=>by
   rcases hob _ hb with h | ⟨c,e⟩
   ·exact h
   ·have:=hnew _ c e;have:=(hrel.bags.tgs y hy).1;omega
  refine⟨v,.sl hp.length n,_,M.app [x],rfl,⟨rfl,rfl⟩,⟨by simp[hrel.len],fun i o m ho hm=>?_,fun b hb hz=>?_,fun b hb=>nLl (hrel.old b hb) h3.size,hrel.amb_stp hs,fun i j oi oj b c c' hi hj li lj mi mj=>?_,⟨fun y hy=>⟨nLl (hrel.bags.tgs y hy).1 h3.size,fun hz hb=>(hrel.bags.tgs y hy).2 hz (hobx y hy hb)⟩,fun i j al al' ar ar' lt lt' hi hj=>hrel.bags.one i j al al' ar ar' lt lt' (Kny rfl i al ar lt hi) (Kny rfl j al' ar' lt' hj),fun i al ar lt hi t y hy hb=>hrel.bags.lnd i al ar lt (Kny rfl i al ar lt hi) t y hy (hobx y (mOg hy) hb),hrel.bags.hds⟩⟩,?_,hs2,⟨by simp[hrel.len],fun i hi=>hMe i (by rw[hrel.len];exact hi)⟩⟩
  ·rcases Kqb ho with⟨hi,e3⟩ | ⟨hi,rfl⟩
   ·rw[hMe i (by rw[hrel.len];exact hi)] at hm
    have:=hrel.obj i o m e3 hm
    refine this.move (k:=M.l.length) (Kob Z hs2) hMe this.bel (fun b c e hl=>?_) fun _ _ _ _=>⟨rfl,fun x hx _=>hkeep _ (hrel.bags.tgs x hx).1⟩
    subst e
    exact hkeep b (hrel.block_ob ⟨i,o,c,e3,hl,hm⟩)
   ·subst hi
    rw[←hrel.len] at hm
    have:m=x:=by
     rcases Kqb hm with⟨hi,_⟩ | ⟨_,h⟩
     ·omega
     ·exact h.symm
    subst this
    match m,hrow with
    | none,hrow=>exact hrow
    | some (b,c),⟨e0,cs,e1,e2,e3,e4,e5⟩=>exact⟨e0,cs,e1,e2,e3,e4,fun j d hd=>let ⟨u,f1,f2⟩:=e5 j d hd;⟨u,f1,hplain d u _ _ _ _ (mOg hd) f2⟩⟩
  ·rcases hb with hb1 | ⟨hg,y,hy,e⟩
   ·rcases hob b hb1 with h | ⟨c,e⟩
    ·exact hrel.apart b (.inl h) hz
    ·have:=hnew b c e;have:=hrel.old b hz;omega
   ·exact hrel.apart b (.inr ⟨hg.of (Kny rfl),y,hy,e⟩) hz
  ·have old:∀ (i:Nat) (o:Ob) (c:Nat),hp[i]?=some o→o.live=true→M.l[i]?=some (some (b,c))→b<w.heap.size:=fun i o c e1 e2 e3=>hrel.block_lt (.inl ⟨i,o,c,e1,e2,e3⟩)
   rcases Kqb mi with⟨hi1,hi2⟩ | ⟨hi1,hi2⟩
   ·rw[gAl (by rw[←hrel.len];exact hi1)] at hi
    rcases Kqb mj with⟨hj1,hj2⟩ | ⟨hj1,hj2⟩
    ·rw[gAl (by rw[←hrel.len];exact hj1)] at hj
     exact hrel.inj i j oi oj b c c' hi hj li lj hi2 hj2
    ·have:=old i oi c hi li hi2;have:=hnew b c' hj2;omega
   ·rcases Kqb mj with⟨hj1,hj2⟩ | ⟨hj1,hj2⟩
    ·rw[gAl (by rw[←hrel.len];exact hj1)] at hj
     have:=old j oj c' hj lj hj2;have:=hnew b c hi2;omega
    ·omega
  ·cases h2 with
   | sl hM hn hm=>
    rw[hx] at hM
    simp at hM
    refine .sl (b:=_) (c:=_) ?_ hn hm
    rw[←hrel.len]
    simp[hM]
   | slnil hM=>
    rw[hx] at hM
    simp at hM
    refine .slnil ?_
    rw[←hrel.len]
    simp[hM]
def D.isV:D→Bool
 | .v _=>true
 | _=>false
theorem Kkd{α:Type}{enc:α→List D}(h:∀ x,(enc x).all D.isV=true)(l:List α):∀ d∈l.flatMap enc,∃ v,d=.v v:=fun d hd=>by
 obtain⟨x,_,h2⟩:=List.mem_flatMap.1 hd
 have:=lAe.1 (h x) d h2
 cases d<;>first | exact⟨_,rfl⟩ | cases this
theorem Kke{rest:List Oper}{d:Tmp}{ty:TypeId}{pos:String}{after:Array Edge}{gs0:List G}{te:TypeId}{sz n:Nat}{ds:List D}(hcl:Callable P f)(hc:EC P f gs0 [] fun g hp'=>g=.sl 0 n∧hp'=[.row te sz n ds])(hpl:∀ d∈ds,∃ v,d=.v v)(hd:Nat.blt d N=true)(hF:F≤hp.length)(hf:fr.ev fop=some (.fn (.func f) g1 g2))(ha:args.toList.mapM fr.ev=some gs')(hgs:(g1++gs'++g2).map (G.lend hp)=gs0)(hb:G.belAll 0 gs0=true)
  (h:EO P F N ops rest Q ((d,.sl hp.length n) :: fr) (hp++[.row te sz n ds])):EO P F N ops (⟨some d,.call ⟨.value fop,args,ts⟩,ty,pos,after,none⟩ :: rest) Q fr hp:=by
 subst hgs
 exact Kpz hd hF hf ha hcl (EC.lendRow hc hb hpl) (by rintro _ _ ⟨rfl,rfl⟩;exact h)
end
section
variable{P:Program}{Γ:TypeId→Option TI}{F N:Nat}{Q:GPost}{fr fr':Fr}{hp hp':List Ob}{ks:List Kt}
variable{K W:Type}[BEq K][KLt K]{kv:K→Value}{ops:Array Oper}{rest:List Oper}{g:G}
variable{d:Tmp}{op:Op}{ty:TypeId}{pos:String}{after:Array Edge}{gd:Option (Nat×Bool)}
theorem Kkf(hΓ:TOK P Γ){t kt et:TypeId}{i1 i2 i3:TI}{x y:Operand}{id:Nat}{st:Option (List (Value×List D)×List Nat×Nat)}{te:TypeId}{sz:Nat}{enc:W→List D}(m:List (K×Tl W))(k:K){gv:G}(h1:Γ t=some i1)(h1':i1.desc=.map kt et)(h2:Γ kt=some i2)(h3:Γ et=some i3)(hK:KeyOk i2.desc kv)
  (hx:fr.ev x=some (.map id)) (ho:hp[id]?=some (mObS kv false (eT te sz enc) m st)) (hy:fr.ev y=some (.d (.v (kv k)))) (hz:i3.zero=.slice none 0 0)
  (hg:dG false (eT te sz enc ((mGet m k).getD (1,[])))=some gv):OpP P N ⟨some d,.lookup t x y false,ty,pos,after,gd⟩ fr hp gv:=fun Z w M a hr=>by
 have hzd:DV w (ownZ Z hp M) false (eT te sz enc (1,[])) i3.zero:=by
  rw[hz]
  exact⟨_,rfl,.rt te sz 1 0 [] _ .nil ⟨none,rfl,fun _=>rfl⟩⟩
 obtain⟨u1,_⟩:=hΓ t _ h1
 rw[h1'] at u1
 obtain⟨u2,_⟩:=hΓ kt _ h2
 obtain⟨u3,inf,e1,e2,e3,e4⟩:=hΓ et _ h3
 have hvx:=hr.ev hx
 simp only[execOp,hr.ev_v hy]
 generalize a.eval x=vx at hvx
 cases hvx with
 | map hM=>
  obtain⟨m',ms,cl,hA⟩:=Khy hr.heap ho hM
  have m1:=hA.heap
  have m4:=hA.get
  have hf:=MapKept.run_findKey (P:=P) (w:=w) u2 (hA.find hK k)
  have hc:=MapKept.run_checkKey (P:=P) (w:=w) u2 (hK.key k) ms.isEmpty 9999
  rw[←Khx hK hA.perm hA.apart] at hg
  rw[Khz] at hg
  cases hi:m'.findIdx? fun e=>k==e.1 with
  | none=>
   rw[hi] at hf hg
   simp only[Option.bind_none,Option.getD_none] at hf hg
   refine⟨i3.zero,?_,hzd.vr hg⟩
   simp[Instr.lookup,run_underlying u1,MapKept.run_getObj_map m1,hc,hf,zeroValue,typeInfo,e1,e4]
  | some j=>
   rw[hi] at hf hg
   have hj:j<m'.length:=(lFi.1 hi).1
   obtain⟨e,f1,f2,f3⟩:=m4 j _ (gGe hj)
   simp only[Option.bind_some,f1,List.getElem?_eq_getElem hj,Option.map_some,Option.getD_some] at hf hg
   refine⟨e.val,?_,f3.vr hg⟩
   simp[Instr.lookup,run_underlying u1,MapKept.run_getObj_map m1,hc,hf]
end
end Go.Gk
namespace Go.Gk
def hdG(k:Option Nat)(id:Nat):G:=match k with
 | some off=>.ptr id off
 | none=>.map id
def Ar.ob:Ar→Ob
 | .map _ agg es=>.map agg es none
 | .box _ ty ds=>.box ty (ds.map .d)
 | .row _ ty sz n ds=>.row ty sz n ds
theorem Ar.ob_live(a:Ar):a.ob.live=true:=by cases a<;>rfl
theorem Ar.ob_bag(a:Ar):a.ob.isBag=false:=by cases a<;>rfl
theorem ArR.ob{w:World}{O:Ow}{M M':Mp}{a:Ar}(h:ArR w O M a)(hnr:a.isRow=false):∃ x:Tg,M.h[a.t]?=some (some x)∧x.sz=0∧ObR w O M' a.ob (some (x.b,0)):=by
 cases a with
 | map t agg es=>exact let ⟨x,e1,e2,e3⟩:=h;⟨x,e1,e2,e3⟩
 | box t ty ds=>
  obtain⟨x,e1,e2,cs,e3,e4,e5⟩:=h
  refine⟨x,e1,e2,cs,e3,by simp[e4],fun j g hg=>?_⟩
  rw[gMp] at hg
  obtain⟨d,hd,rfl⟩:=oMs.1 hg
  obtain⟨v,f1,f2⟩:=e5 j d hd
  exact⟨v,f1,f2.one,.d f2⟩
 | row _ _ _ _ _=>cases hnr
theorem RelH.lend{Z:Env}{hp:List Ob}{M:Mp}{w:World}(hr:RelH Z hp M w){bg:Nat}{al:List Bool}{ar ar':List Ar}{lt:List (Nat×Nat)}{a:Ar}(hbag:hp[bg]?=some (.bag al ar lt))(hperm:ar.Perm (a :: ar'))(hnr:a.isRow=false) :
  ∃ x:Tg,M.h[a.t]?=some (some x)∧RelH Z ((hp.set bg (.bag al ar' ((a.t,hp.length) :: lt)))++[a.ob]) (M.app [some (x.b,0)]) w∧own ((hp.set bg (.bag al ar' ((a.t,hp.length) :: lt)))++[a.ob]) (M.app [some (x.b,0)])=own hp M:=by
 obtain⟨hbm,q1,q2,q3,q4,q5,q6⟩:=hr.bag_none hbag
 have hbl:bg<hp.length:=(gEs.1 hbag).1
 have hmem:a∈ar:=hperm.mem_iff.2 (mCs ..)
 obtain⟨x,hx,hxz,hxo⟩:=(q4 a hmem).1.ob (M':=M) hnr
 refine⟨x,hx,?_⟩
 have hno:¬ obOwn hp M x.b:=fun h=>let ⟨id,h1⟩:=hr.bags.lnd bg al ar lt hbag a.t x hx h;(q4 a hmem).2.1 id h1
 have hpw:(a :: ar').Pairwise (fun a a'=>a.t≠a'.t):=(hperm.pairwise_iff fun h=>Ne.symm h).1 q5
 have hcase:∀ (i:Nat) (o:Ob),((hp.set bg (.bag al ar' ((a.t,hp.length) :: lt)))++[a.ob])[i]?=some o→(i≠bg∧i<hp.length∧hp[i]?=some o)∨(i=bg∧o=.bag al ar' ((a.t,hp.length) :: lt))∨(i=hp.length∧o=a.ob):=fun i o h=>by
  by_cases hi:i<hp.length
  ·rw[gAl (by simpa using hi)] at h
   by_cases hb:bg=i
   ·subst hb;rw[gSs hbl] at h;cases h;exact .inr (.inl ⟨rfl,rfl⟩)
   ·rw[gSn hb] at h;exact .inl ⟨Ne.symm hb,hi,h⟩
  ·rw[gAr (by simpa using hi)] at h
   simp only[List.length_set] at h
   have:i - hp.length=0:=by
    have:=(gEs.1 h).1
    simp at this;omega
   rw[this] at h
   simp at h
   exact .inr (.inr ⟨by omega,h.symm⟩)
 have hMo:∀ i,i<M.l.length→(M.app [some (x.b,0)]).l[i]?=M.l[i]?:=fun i hi=>gAl hi
 have hMn:(M.app [some (x.b,0)]).l[hp.length]?=some (some (x.b,0)):=by rw[←hr.len];simp
 have hob:∀ b,obOwn ((hp.set bg (.bag al ar' ((a.t,hp.length) :: lt)))++[a.ob]) (M.app [some (x.b,0)]) b ↔ obOwn hp M b∨b=x.b:=fun b=>by
  constructor
  ·rintro⟨i,o,c,h1,h2,h3⟩
   rcases hcase i o h1 with⟨_,hi,h⟩ | ⟨rfl,rfl⟩ | ⟨rfl,rfl⟩
   ·exact .inl ⟨i,o,c,h,h2,by rw[←hMo i (by rw[hr.len];exact hi)];exact h3⟩
   ·rw[hMo _ (by rw[hr.len];exact hbl),hbm] at h3;cases h3
   ·rw[hMn] at h3;cases h3;exact .inr rfl
  ·rintro(⟨i,o,c,h1,h2,h3⟩ | rfl)
   ·have hi:i<hp.length:=(gEs.1 h1).1
    have hne:bg≠i:=fun e=>by subst e;rw[hbm] at h3;cases h3
    exact⟨i,o,c,by rw[gAl (by simpa using hi),gSn hne];exact h1,h2,by rw[hMo i (by rw[hr.len];exact hi)];exact h3⟩
   ·exact⟨hp.length,a.ob,0,by rw[gAr (by simp)];simp,a.ob_live,hMn⟩
 have hg:hasBag hp:=⟨bg,al,ar,lt,hbag⟩
 have hg':hasBag ((hp.set bg (.bag al ar' ((a.t,hp.length) :: lt)))++[a.ob]):=⟨bg,al,ar',_,by rw[gAl (by simpa using hbl),gSs hbl]⟩
 have hown:own ((hp.set bg (.bag al ar' ((a.t,hp.length) :: lt)))++[a.ob]) (M.app [some (x.b,0)])=own hp M:=Knv (fun b=>by
  constructor
  ·rintro(h | ⟨_,h⟩)
   ·rcases(hob b).1 h with h | rfl
    ·exact .inl h
    ·exact .inr ⟨hg,x,mOg hx,rfl⟩
   ·exact .inr ⟨hg,h⟩
  ·rintro(h | ⟨_,h⟩)
   ·exact .inl ((hob b).2 (.inl h))
   ·exact .inr ⟨hg',h⟩) rfl ⟨fun _=>hg,fun _=>hg'⟩
 have hownZ:ownZ Z ((hp.set bg (.bag al ar' ((a.t,hp.length) :: lt)))++[a.ob]) (M.app [some (x.b,0)])=ownZ Z hp M:=by unfold ownZ;rw[hown]
 have hbags:∀ (i:Nat) (al1:List Bool) (ar1:List Ar) (lt1:List (Nat×Nat)),((hp.set bg (.bag al ar' ((a.t,hp.length) :: lt)))++[a.ob])[i]?=some (.bag al1 ar1 lt1)→i=bg∧lt1=(a.t,hp.length) :: lt:=fun i al1 ar1 lt1 h=>by
  rcases hcase i _ h with⟨h1,_,h2⟩ | ⟨h1,h2⟩ | ⟨_,h2⟩
  ·exact absurd (hr.bags.one _ _ _ _ _ _ _ _ h2 hbag) h1
  ·cases h2;exact⟨h1,rfl⟩
  ·have:=a.ob_bag;rw[←h2] at this;cases this
 refine⟨⟨by simp[hr.len],fun i o m h1 h2=>?_,fun b hb hz=>hr.apart b (by rw[hown] at hb;exact hb) hz,hr.old,hr.amb,fun i j oi oj b c c' hi hj li lj mi mj=>?_,⟨fun y hy=>⟨(hr.bags.tgs y hy).1,fun hz h=>?_⟩,fun i j al1 al2 ar1 ar2 lt1 lt2 hi hj=>(hbags i _ _ _ hi).1.trans (hbags j _ _ _ hj).1.symm,fun i al1 ar1 lt1 hi t y hy h=>?_,hr.bags.hds⟩⟩,hown⟩
 ·rw[hownZ]
  rcases hcase i o h1 with⟨hne,hi,h⟩ | ⟨rfl,rfl⟩ | ⟨rfl,rfl⟩
  ·rw[hMo i (by rw[hr.len];exact hi)] at h2
   have:=hr.obj i o m h h2
   exact this.move (k:=M.l.length) (.refl _ _) hMo this.bel (fun _ _ _ _=>rfl) (fun _ _ _ _=>⟨rfl,fun _ _ _=>rfl⟩)
  ·rw[hMo _ (by rw[hr.len];exact hbl),hbm] at h2
   cases h2
   refine⟨q1,q2,q3,fun a1 ha1=>⟨((q4 a1 (hperm.mem_iff.2 (mCo _ ha1))).1).same rfl,fun id hm=>?_,(q4 a1 (hperm.mem_iff.2 (mCo _ ha1))).2.2⟩,(List.pairwise_cons.1 hpw).2,fun t id hm=>?_⟩
   ·rcases List.mem_cons.1 hm with e | hm
    ·exact(List.pairwise_cons.1 hpw).1 a1 ha1 (congrArg Prod.fst e).symm
    ·exact(q4 a1 (hperm.mem_iff.2 (mCo _ ha1))).2.1 id hm
   ·rcases List.mem_cons.1 hm with e | hm
    ·cases e;exact⟨x,0,hx,hxz,hMn⟩
    ·obtain⟨y,c,e1,e2,e3⟩:=q6 t id hm
     exact⟨y,c,e1,e2,(hMo id (Mp.lt e3)).trans e3⟩
  ·rw[hMn] at h2
   cases h2
   exact hxo.move (k:=M.l.length) (.refl _ _) hMo hxo.bel (fun _ _ _ _=>rfl) (fun _ _ _ e=>by have:=a.ob_bag;rw[e] at this;cases this)
 ·rcases hcase i oi hi with⟨_,hil,hi⟩ | ⟨rfl,rfl⟩ | ⟨rfl,rfl⟩
  ·rw[hMo i (by rw[hr.len];exact hil)] at mi
   rcases hcase j oj hj with⟨_,hjl,hj⟩ | ⟨rfl,rfl⟩ | ⟨rfl,rfl⟩
   ·rw[hMo j (by rw[hr.len];exact hjl)] at mj
    exact hr.inj i j oi oj b c c' hi hj li lj mi mj
   ·rw[hMo _ (by rw[hr.len];exact hbl),hbm] at mj;cases mj
   ·rw[hMn] at mj;cases mj;exact absurd ⟨i,oi,c,hi,li,mi⟩ hno
  ·rw[hMo _ (by rw[hr.len];exact hbl),hbm] at mi;cases mi
  ·rw[hMn] at mi
   cases mi
   rcases hcase j oj hj with⟨_,hjl,hj⟩ | ⟨rfl,rfl⟩ | ⟨rfl,rfl⟩
   ·rw[hMo j (by rw[hr.len];exact hjl)] at mj
    exact absurd ⟨j,oj,c',hj,lj,mj⟩ hno
   ·rw[hMo _ (by rw[hr.len];exact hbl),hbm] at mj;cases mj
   ·rfl
 ·rcases(hob _).1 h with h | e
  ·exact(hr.bags.tgs y hy).2 hz h
  ·obtain⟨t,ht⟩:=List.getElem?_of_mem hy
   have ht':M.h[t]?=some (some y):=ht
   have:=hr.bags.hds a.t t x y hx ht' hxz e
   subst this
   rw[hx] at ht'
   cases ht'
   omega
 ·obtain⟨_,rfl⟩:=hbags i _ _ _ hi
  have hy':M.h[t]?=some (some y):=hy
  rcases(hob _).1 h with h | e
  ·obtain⟨id,h1⟩:=hr.bags.lnd bg al ar lt hbag t y hy' h
   exact⟨id,mCo _ h1⟩
  ·have:=hr.bags.hds a.t t x y hx hy' hxz e
   subst this
   exact⟨hp.length,mCs ..⟩
def Ar.of:Ar→Ob→Prop
 | .map _ agg es,.map agg' es' _=>agg'=agg∧es'=es
 | .box _ ty ds,.box ty' gs=>ty'=ty∧gs=ds.map .d
 | _,_=>False
theorem ArR.of_ob{w:World}{O:Ow}{M:Mp}{a:Ar}{o:Ob}{x:Tg}{c:Nat}(ha:a.of o)(h:ObR w O M o (some (x.b,c)))(hx:M.h[a.t]?=some (some x))(hz:x.sz=0):ArR w O M a:=by
 cases a with
 | map t agg es=>
  cases o with
  | map agg' es' st=>
   obtain⟨rfl,rfl⟩:=ha
   obtain⟨ms,cl,es',h1,p1,p2,p3,h2⟩:=h
   exact⟨x,hx,hz,ms,cl,es',h1,p1,p2,(fun raw e=>by cases e),h2⟩
  | _=>exact ha.elim
 | box t ty ds=>
  cases o with
  | box ty' gs=>
   obtain⟨rfl,rfl⟩:=ha
   obtain⟨cs,h1,h2,h3⟩:=h
   refine⟨x,hx,hz,cs,h1,by simpa using h2,fun j d hd=>?_⟩
   obtain⟨v,e1,e2,e3⟩:=h3 j (.d d) (by rw[gMp,hd];rfl)
   refine⟨v,e1,?_⟩
   cases e3 with
   | d h=>exact h
  | _=>exact ha.elim
 | row _ _ _ _ _=>cases o<;>exact ha.elim
theorem RelH.back{Z:Env}{hp:List Ob}{M:Mp}{w:World}(hr:RelH Z hp M w){bg id:Nat}{al:List Bool}{ar:List Ar}{a:Ar}{o:Ob}(hbag:hp[bg]?=some (.bag al ar [(a.t,id)]))(ho:hp[id]?=some o)(hl:o.live=true)(hoa:a.of o) :
  RelH Z ((hp.set id .dead).set bg (.bag al (a :: ar) [])) M w∧own ((hp.set id .dead).set bg (.bag al (a :: ar) [])) M=own hp M:=by
 obtain⟨hbm,q1,q2,q3,q4,q5,q6⟩:=hr.bag_none hbag
 have hbl:bg<hp.length:=(gEs.1 hbag).1
 have hid:id<hp.length:=(gEs.1 ho).1
 obtain⟨x,c0,hx,hxz,hMx⟩:=q6 a.t id (mCs ..)
 have hcase:∀ (i:Nat) (o1:Ob),((hp.set id .dead).set bg (.bag al (a :: ar) []))[i]?=some o1→(i≠bg∧i≠id∧hp[i]?=some o1)∨(i=bg∧o1=.bag al (a :: ar) [])∨(i≠bg∧o1=.dead):=fun i o1 h=>by
  by_cases hb:bg=i
  ·subst hb;rw[gSs (by simpa using hbl)] at h;cases h;exact .inr (.inl ⟨rfl,rfl⟩)
  ·rw[gSn hb] at h
   by_cases hi:id=i
   ·subst hi;rw[gSs hid] at h;cases h;exact .inr (.inr ⟨Ne.symm hb,rfl⟩)
   ·rw[gSn hi] at h;exact .inl ⟨Ne.symm hb,Ne.symm hi,h⟩
 have hob:∀ b,obOwn ((hp.set id .dead).set bg (.bag al (a :: ar) [])) M b→obOwn hp M b∧b≠x.b:=fun b h=>by
  obtain⟨i,o1,c,h1,h2,h3⟩:=h
  rcases hcase i o1 h1 with⟨_,hi,h⟩ | ⟨rfl,rfl⟩ | ⟨_,rfl⟩
  ·exact⟨⟨i,o1,c,h,h2,h3⟩,fun e=>by subst e;exact hi (hr.inj i id o1 o _ c c0 h ho h2 hl h3 hMx)⟩
  ·rw[hbm] at h3;cases h3
  ·cases h2
 have hob2:∀ b,obOwn hp M b→obOwn ((hp.set id .dead).set bg (.bag al (a :: ar) [])) M b∨b=x.b:=fun b h=>by
  obtain⟨i,o1,c,h1,h2,h3⟩:=h
  have hne:bg≠i:=fun e=>by subst e;rw[hbm] at h3;cases h3
  by_cases hi:id=i
  ·subst hi;rw[hMx] at h3;cases h3;exact .inr rfl
  ·exact .inl ⟨i,o1,c,by rw[gSn hne,gSn hi];exact h1,h2,h3⟩
 have hg:hasBag hp:=⟨bg,al,ar,_,hbag⟩
 have hg':hasBag ((hp.set id .dead).set bg (.bag al (a :: ar) [])):=⟨bg,al,_,_,gSs (by simpa using hbl)⟩
 have hown:own ((hp.set id .dead).set bg (.bag al (a :: ar) [])) M=own hp M:=Knv (fun b=>by
  constructor
  ·rintro(h | ⟨_,h⟩)
   ·exact .inl (hob b h).1
   ·exact .inr ⟨hg,h⟩
  ·rintro(h | ⟨_,h⟩)
   ·rcases hob2 b h with h | rfl
    ·exact .inl h
    ·exact .inr ⟨hg',x,mOg hx,rfl⟩
   ·exact .inr ⟨hg',h⟩) rfl ⟨fun _=>hg,fun _=>hg'⟩
 have hownZ:ownZ Z ((hp.set id .dead).set bg (.bag al (a :: ar) [])) M=ownZ Z hp M:=by unfold ownZ;rw[hown]
 have hbags:∀ (i:Nat) (al1:List Bool) (ar1:List Ar) (lt1:List (Nat×Nat)),((hp.set id .dead).set bg (.bag al (a :: ar) []))[i]?=some (.bag al1 ar1 lt1)→i=bg:=fun i al1 ar1 lt1 h=>by
  rcases hcase i _ h with⟨h1,_,h2⟩ | ⟨h1,h2⟩ | ⟨_,h2⟩
  ·exact absurd (hr.bags.one _ _ _ _ _ _ _ _ h2 hbag) h1
  ·exact h1
  ·cases h2
 refine⟨⟨by simp[hr.len],fun i o1 m h1 h2=>?_,fun b hb hz=>hr.apart b (by rw[hown] at hb;exact hb) hz,hr.old,hr.amb,fun i j oi oj b c c' hi hj li lj mi mj=>?_,⟨fun y hy=>⟨(hr.bags.tgs y hy).1,fun hz h=>(hr.bags.tgs y hy).2 hz (hob _ h).1⟩,fun i j al1 al2 ar1 ar2 lt1 lt2 hi hj=>(hbags i _ _ _ hi).trans (hbags j _ _ _ hj).symm,fun i al1 ar1 lt1 hi t y hy h=>?_,hr.bags.hds⟩⟩,hown⟩
 ·rw[hownZ]
  rcases hcase i o1 h1 with⟨_,hi,h⟩ | ⟨rfl,rfl⟩ | ⟨_,rfl⟩
  ·exact hr.obj i o1 m h h2
  ·rw[hbm] at h2
   cases h2
   refine⟨q1,q2,q3,fun a1 ha1=>⟨?_,fun id hm=>by simp at hm,fun hrow=>?_⟩,List.pairwise_cons.2 ⟨fun a1 ha1 e=>(q4 a1 ha1).2.1 id (by rw[e];exact mCs ..),q5⟩,fun t id hm=>by simp at hm⟩
   rotate_left
   ·rcases List.mem_cons.1 ha1 with rfl | ha1
    ·cases a1<;>first | (cases hrow;done) | (cases o<;>exact hoa.elim)
    ·exact(q4 a1 ha1).2.2 hrow
   rcases List.mem_cons.1 ha1 with rfl | ha1
   ·exact ArR.of_ob hoa (hr.obj id o _ ho hMx) hx hxz
   ·exact(q4 a1 ha1).1
  ·cases m<;>trivial
 ·have key:∀ (i:Nat) (o1:Ob) (c:Nat),((hp.set id .dead).set bg (.bag al (a :: ar) []))[i]?=some o1→o1.live=true→M.l[i]?=some (some (b,c))→hp[i]?=some o1:=fun i o1 c e1 e2 e3=>by
   rcases hcase i o1 e1 with⟨_,_,h⟩ | ⟨rfl,rfl⟩ | ⟨_,rfl⟩
   ·exact h
   ·rw[hbm] at e3;cases e3
   ·cases e2
  exact hr.inj i j oi oj b c c' (key i oi c hi li mi) (key j oj c' hj lj mj) li lj mi mj
 ·exfalso
  obtain⟨h1,h2⟩:=hob _ h
  obtain⟨id',h3⟩:=hr.bags.lnd bg al ar _ hbag t y hy h1
  simp at h3
  obtain⟨rfl,rfl⟩:=h3
  rw[hx] at hy
  cases hy
  exact h2 rfl
theorem RelH.reperm{Z:Env}{hp:List Ob}{M:Mp}{w:World}(hr:RelH Z hp M w){bg:Nat}{al:List Bool}{ar arn:List Ar}{lt:List (Nat×Nat)}(hbag:hp[bg]?=some (.bag al ar lt))(hperm:arn.Perm ar) :
  RelH Z (hp.set bg (.bag al arn lt)) M w∧own (hp.set bg (.bag al arn lt)) M=own hp M:=by
 obtain⟨hbm,q1,q2,q3,q4,q5,q6⟩:=hr.bag_none hbag
 have hbl:bg<hp.length:=(gEs.1 hbag).1
 have hcase:∀ (i:Nat) (o:Ob),(hp.set bg (.bag al arn lt))[i]?=some o→(i≠bg∧hp[i]?=some o)∨(i=bg∧o=.bag al arn lt):=fun i o h=>by
  by_cases hb:bg=i
  ·subst hb;rw[gSs hbl] at h;cases h;exact .inr ⟨rfl,rfl⟩
  ·rw[gSn hb] at h;exact .inl ⟨Ne.symm hb,h⟩
 have hob:∀ b,obOwn (hp.set bg (.bag al arn lt)) M b ↔ obOwn hp M b:=fun b=>by
  constructor
  ·rintro⟨i,o,c,h1,h2,h3⟩
   rcases hcase i o h1 with⟨_,h⟩ | ⟨rfl,rfl⟩
   ·exact⟨i,o,c,h,h2,h3⟩
   ·rw[hbm] at h3;cases h3
  ·rintro⟨i,o,c,h1,h2,h3⟩
   have hne:bg≠i:=fun e=>by subst e;rw[hbm] at h3;cases h3
   exact⟨i,o,c,by rw[gSn hne];exact h1,h2,h3⟩
 have hg:hasBag hp:=⟨bg,al,ar,lt,hbag⟩
 have hg':hasBag (hp.set bg (.bag al arn lt)):=⟨bg,al,arn,lt,gSs hbl⟩
 have hown:own (hp.set bg (.bag al arn lt)) M=own hp M:=Knv (fun b=>⟨fun h=>h.imp (hob b).1 fun ⟨_,h⟩=>⟨hg,h⟩,fun h=>h.imp (hob b).2 fun ⟨_,h⟩=>⟨hg',h⟩⟩) rfl ⟨fun _=>hg,fun _=>hg'⟩
 have hownZ:ownZ Z (hp.set bg (.bag al arn lt)) M=ownZ Z hp M:=by unfold ownZ;rw[hown]
 have hbags:∀ (i:Nat) (al1:List Bool) (ar1:List Ar) (lt1:List (Nat×Nat)),(hp.set bg (.bag al arn lt))[i]?=some (.bag al1 ar1 lt1)→i=bg∧lt1=lt:=fun i al1 ar1 lt1 h=>by
  rcases hcase i _ h with⟨h1,h2⟩ | ⟨h1,h2⟩
  ·exact absurd (hr.bags.one _ _ _ _ _ _ _ _ h2 hbag) h1
  ·cases h2;exact⟨h1,rfl⟩
 refine⟨⟨by simp[hr.len],fun i o m h1 h2=>?_,fun b hb hz=>hr.apart b (by rw[hown] at hb;exact hb) hz,hr.old,hr.amb,fun i j oi oj b c c' hi hj li lj mi mj=>?_,⟨fun y hy=>⟨(hr.bags.tgs y hy).1,fun hz h=>(hr.bags.tgs y hy).2 hz ((hob _).1 h)⟩,fun i j al1 al2 ar1 ar2 lt1 lt2 hi hj=>(hbags i _ _ _ hi).1.trans (hbags j _ _ _ hj).1.symm,fun i al1 ar1 lt1 hi t y hy h=>?_,hr.bags.hds⟩⟩,hown⟩
 ·rw[hownZ]
  rcases hcase i o h1 with⟨_,h⟩ | ⟨rfl,rfl⟩
  ·exact hr.obj i o m h h2
  ·rw[hbm] at h2
   cases h2
   exact⟨q1,q2,q3,fun a ha=>q4 a (hperm.mem_iff.1 ha),(hperm.pairwise_iff fun h=>Ne.symm h).2 q5,q6⟩
 ·have key:∀ (i:Nat) (o1:Ob) (c:Nat),(hp.set bg (.bag al arn lt))[i]?=some o1→o1.live=true→M.l[i]?=some (some (b,c))→hp[i]?=some o1:=fun i o1 c e1 e2 e3=>by
   rcases hcase i o1 e1 with⟨_,h⟩ | ⟨rfl,rfl⟩
   ·exact h
   ·rw[hbm] at e3;cases e3
  exact hr.inj i j oi oj b c c' (key i oi c hi li mi) (key j oj c' hj lj mj) li lj mi mj
 ·obtain⟨_,rfl⟩:=hbags i _ _ _ hi
  exact hr.bags.lnd bg al ar _ hbag t y hy ((hob _).1 h)
section
variable{P:Program}{Γ:TypeId→Option TI}{F N:Nat}{Q:GPost}{fr fr':Fr}{hp hp':List Ob}{ks:List Kt}
variable{ops:Array Oper}{rest:List Oper}{g:G}{α:Type}{enc:α→List D}
theorem Kkg{bg:Nat}{k:Option Nat}{al:List Bool}{ar ar':List Ar}{lt:List (Nat×Nat)}{a:Ar}(t:Nat)(ht:fr.get t=some (.d (.hd k (a.t+1))))(hbag:hp[bg]?=some (.bag al ar lt))(hperm:ar.Perm (a :: ar'))(hnr:a.isRow=false):∀ Z w M a0,Rel Z hp M w fr a0 N→
  ∃ M',Rel Z ((hp.set bg (.bag al ar' ((a.t,hp.length) :: lt)))++[a.ob]) M' w ((t,hdG k hp.length) :: fr) a0 N∧own ((hp.set bg (.bag al ar' ((a.t,hp.length) :: lt)))++[a.ob]) M'=own hp M∧Agr hp.length M M':=by
 intro Z w M a0 hr
 obtain⟨x,hx,r1,r2⟩:=hr.heap.lend hbag hperm hnr
 have hst:Stp w (own hp M) w (own ((hp.set bg (.bag al ar' ((a.t,hp.length) :: lt)))++[a.ob]) (M.app [some (x.b,0)])):=by rw[r2];exact .refl _ _
 have hMo:∀ i,i<M.l.length→(M.app [some (x.b,0)]).l[i]?=M.l[i]?:=fun i hi=>gAl hi
 have hMn:(M.app [some (x.b,0)]).l[hp.length]?=some (some (x.b,0)):=by rw[←hr.heap.len];simp
 refine⟨_,⟨r1,fun t' g hg=>?_,hr.size,hr.defers⟩,r2,⟨by simp[hr.heap.len],fun i hi=>hMo i (by rw[hr.heap.len];exact hi)⟩⟩
 simp only[Fr.get] at hg
 cases hk:Nat.beq t t' with
 | false=>
  rw[hk] at hg
  obtain⟨v,h1,h2⟩:=hr.fr t' g hg
  exact⟨v,h1,h2.step (Kob Z hst) hMo⟩
 | true=>
  rw[hk] at hg
  have:=nEq hk
  subst this
  cases hg
  obtain⟨v,hv,hvr⟩:=hr.fr t _ ht
  refine⟨v,hv,?_⟩
  cases hvr with
  | d hd=>
   cases hd with
   | hd _ _ _ hd=>
    obtain⟨x',f1,_,rfl⟩:=hd
    have f1':M.h[a.t]?=some (some x'):=f1
    rw[hx] at f1'
    cases f1'
    cases k with
    | some off=>exact .ptr hMn
    | none=>exact .map hMn
def AllHd(fr:Fr)(id:Nat):List (Nat×Option Nat)→Prop
 | []=>True
 | e :: L=>fr.get e.1=some (hdG e.2 id)∧AllHd fr id L
def hdL:List (Nat×Option Nat)→Nat→Fr
 | [],_=>[]
 | e :: L,h=>(e.1,.d (.hd e.2 h)) :: hdL L h
theorem AllHd.at{fr:Fr}{id:Nat}:∀ {L:List (Nat×Option Nat)},AllHd fr id L→∀ {t:Nat} {k:Option Nat},(t,k)∈L→fr.get t=some (hdG k id)
 | e :: L,h,t,k,hm=>by
  rcases List.mem_cons.1 hm with rfl | hm
  ·exact h.1
  exact AllHd.at h.2 hm
theorem Kkh:∀ {L:List (Nat×Option Nat)} {h t:Nat} {g:G},(hdL L h).get t=some g→∃ k,(t,k)∈L∧g=.d (.hd k h)
 | [],h,t,g,hg=>by cases hg
 | e :: L,h,t,g,hg=>by
  simp only[hdL,Fr.get] at hg
  cases hk:Nat.beq e.1 t with
  | true=>
   rw[hk] at hg
   have:=nEq hk
   subst this
   cases hg
   exact⟨e.2,mCs ..,rfl⟩
  | false=>
   rw[hk] at hg
   obtain⟨k,h1,h2⟩:=Kkh hg
   exact⟨k,mCo _ h1,h2⟩
theorem Kki:∀ {A fr:Fr} {t:Nat} {g:G},Fr.get (A++fr) t=some g→A.get t=some g∨fr.get t=some g
 | [],fr,t,g,h=>.inr h
 | e :: A,fr,t,g,h=>by
  obtain⟨k,g0⟩:=e
  simp only[List.cons_append,Fr.get] at h ⊢
  cases hk:Nat.beq k t with
  | true=>rw[hk] at h;exact .inl h
  | false=>rw[hk] at h;exact Kki h
theorem Kkj{bg id:Nat}{al:List Bool}{ar:List Ar}{lt:List (Nat×Nat)}{a:Ar}{o:Ob}(L:List (Nat×Option Nat))(ht:AllHd fr id L)(ho:hp[id]?=some o)(hl:o.live=true)(hoa:a.of o)(hat:a.t=al.length)(hbag:hp[bg]?=some (.bag al ar lt))(hsl:hp.all Ob.sole=true):∀ Z w M a0,Rel Z hp M w fr a0 N→
  ∃ M',Rel Z ((hp.set id .dead).set bg (.bag (al++[false]) (a :: ar) lt)) M' w (hdL L (al.length+1)++fr) a0 N∧Stp w (own hp M) w (own ((hp.set id .dead).set bg (.bag (al++[false]) (a :: ar) lt)) M')∧Agr hp.length M M':=by
 intro Z w M a0 hr
 have hid:id<hp.length:=(gEs.1 ho).1
 have hbl:bg<hp.length:=(gEs.1 hbag).1
 have hbm:=(hr.heap.bag_none hbag).1
 have hlen:al.length=M.h.length:=(hr.heap.bag_none hbag).2.1
 obtain⟨b,c,hM⟩:∃ b c,M.l[id]?=some (some (b,c)):=by
  have e:M.l[id]?=some (M.l[id]'(by rw[hr.heap.len];exact hid)):=gGe _
  have:=hr.heap.obj id o _ ho e
  revert this
  rw[e]
  cases M.l[id]'(by rw[hr.heap.len];exact hid) with
  | some p=>exact fun _=>⟨p.1,p.2,rfl⟩
  | none=>
   intro h
   cases a<;>cases o<;>first | exact hoa.elim | exact h.elim
 have hne:id≠bg:=fun e=>by subst e;rw[hbm] at hM;cases hM
 have hob:obOwn hp M b:=⟨id,o,c,ho,hl,hM⟩
 have hcase:∀ (i:Nat) (o1:Ob),((hp.set id .dead).set bg (.bag (al++[false]) (a :: ar) lt))[i]?=some o1→o1=.dead∨(i≠bg∧hp[i]?=some o1)∨(i=bg∧o1=.bag (al++[false]) (a :: ar) lt):=fun i o1 h=>by
  by_cases hi:bg=i
  ·subst hi;rw[gSs (by simpa using hbl)] at h;cases h;exact .inr (.inr ⟨rfl,rfl⟩)
  ·rw[gSn hi] at h
   by_cases hi2:id=i
   ·subst hi2;rw[gSs hid] at h;cases h;exact .inl rfl
   ·rw[gSn hi2] at h;exact .inr (.inl ⟨Ne.symm hi,h⟩)
 have hid1:((hp.set id .dead).set bg (.bag (al++[false]) (a :: ar) lt))[id]?=some .dead:=by rw[gSn (Ne.symm hne),gSs hid]
 have hget:(M.h++[some (⟨b,0,0,0,0,false⟩:Tg)])[al.length]?=some (some ⟨b,0,0,0,0,false⟩):=by rw[hlen];simp
 have hsl0:∀ x:Tg,some x∈M.h→x.b≠b:=fun x hx e=>hr.heap.sole hsl ⟨bg,al,ar,lt,hbag⟩ hx (e▸hob)
 obtain⟨r1,r2,r3⟩:=Kjh (hp1:=(hp.set id .dead).set bg (.bag (al++[false]) (a :: ar) lt)) (al0:=al) (ar1:=a :: ar) (w':=w) false (some ⟨b,0,0,0,0,false⟩) hr.heap hbag (by simp) hcase (gSs (by simpa using hbl)) (Nat.le_refl _) rfl rfl rfl (fun _ _ _=>rfl) rfl (fun _ h=>h) (fun y h=>by
   cases h
   refine⟨(fun h=>by cases h),hr.heap.block_ob hob,fun _=>.inl hob,?_,fun x hx (e:x.b=b)=>absurd e (hsl0 x hx),fun t x _ hx (e:x.b=b)=>absurd e (hsl0 x (mOg hx))⟩
   rintro⟨i,o1,c',e1,e2,e3⟩
   rcases hcase i o1 e1 with rfl | ⟨_,e⟩ | ⟨rfl,rfl⟩
   ·cases e2
   ·have hii:=hr.heap.inj i id o1 _ b c' c e ho e2 hl e3 hM
    subst hii
    rw[hid1] at e1
    cases e1;cases e2
   ·rw[hbm] at e3;cases e3) ar (Kjf hr.heap hbag) (.inr ⟨a,rfl,hat,fun hst=>by
   have:=ArR.of_ob (M:=⟨M.l,M.h++[some ⟨b,0,0,0,0,false⟩]⟩) (x:=⟨b,0,0,0,0,false⟩) (c:=c) hoa (ObR.move (M:=M) (k:=M.l.length) (M':=⟨M.l,M.h++[some ⟨b,0,0,0,0,false⟩]⟩) (Kob Z hst) (fun _ _=>rfl) (hr.heap.obj id o _ ho hM) (hr.heap.obj id o _ ho hM).bel (fun _ _ _ _=>rfl) (fun _ _ _ e=>by subst e;cases a<;>exact hoa.elim)) (by rw[hat];exact hget) rfl
   exact this,fun hrow=>by cases a<;>first | (cases hrow;done) | (cases o<;>exact hoa.elim)⟩)
 refine⟨_,⟨r1,fun t' g h=>?_,hr.size,hr.defers⟩,r2,r3⟩
 rcases Kki h with h | h
 ·obtain⟨k,hk,rfl⟩:=Kkh h
  obtain⟨v,hv,hvr⟩:=hr.fr t' _ (ht.at hk)
  refine⟨v,hv,.d (.hd _ _ _ ⟨_,hget,.inl rfl,?_⟩)⟩
  cases k with
  | some off=>
   cases hvr with
   | ptr hM'=>rw[hM] at hM';cases hM';rfl
  | none=>
   cases hvr with
   | map hM'=>rw[hM] at hM';cases hM';rfl
 ·obtain⟨u,h1,h2⟩:=hr.fr t' g h
  exact⟨u,h1,VR.step (M:=M) (M':=⟨M.l,M.h++[_]⟩) (Kob Z r2) (fun _ _=>rfl) h2⟩
theorem Kkk{bg:Nat}{al:List Bool}{ar arn:List Ar}{lt:List (Nat×Nat)}(hbag:hp[bg]?=some (.bag al ar lt))(hperm:arn.Perm ar):∀ Z w M a0,Rel Z hp M w fr a0 N→
  ∃ M',Rel Z (hp.set bg (.bag al arn lt)) M' w fr a0 N∧Stp w (own hp M) w (own (hp.set bg (.bag al arn lt)) M')∧Agr hp.length M M':=fun Z w M a0 hr=>by
 obtain⟨r1,r2⟩:=hr.heap.reperm hbag hperm
 have hst:Stp w (own hp M) w (own (hp.set bg (.bag al arn lt)) M):=by rw[r2];exact .refl _ _
 exact⟨M,⟨r1,fun t' g hg=>let ⟨v,h1,h2⟩:=hr.fr t' g hg;⟨v,h1,h2.step (Kob Z hst) (fun _ _=>rfl)⟩,hr.size,hr.defers⟩,hst,⟨Nat.le_of_eq hr.heap.len.symm,fun _ _=>rfl⟩⟩
theorem Kkl{hp1 hp2:List Ob}{fr1 fr2:Fr}(hl:hp.length≤hp1.length)(h1:∀ Z w M a0,Rel Z hp M w fr a0 N→∃ M',Rel Z hp1 M' w fr1 a0 N∧Stp w (own hp M) w (own hp1 M')∧Agr hp.length M M')
  (h2:∀ Z w M a0,Rel Z hp1 M w fr1 a0 N→∃ M',Rel Z hp2 M' w fr2 a0 N∧Stp w (own hp1 M) w (own hp2 M')∧Agr hp1.length M M'):∀ Z w M a0,Rel Z hp M w fr a0 N→∃ M',Rel Z hp2 M' w fr2 a0 N∧Stp w (own hp M) w (own hp2 M')∧Agr hp.length M M':=fun Z w M a0 hr=>
 let ⟨M1,a1,a2,a3⟩:=h1 Z w M a0 hr;let ⟨M2,b1,b2,b3⟩:=h2 Z w M1 a0 a1;⟨M2,b1,a2.trans b2,a3.trans b3 hl⟩
theorem Kkm{bg id:Nat}{al:List Bool}{ar arn:List Ar}{lt:List (Nat×Nat)}{a:Ar}{o:Ob}{hp2:List Ob}(L:List (Nat×Option Nat))(ht:AllHd fr id L)(ho:hp[id]?=some o)(hl:o.live=true)(hoa:a.of o)(hat:a.t=al.length)(hbag:hp[bg]?=some (.bag al ar lt))(hperm:arn.Perm (a :: ar))(h2:(hp.set id .dead).set bg (.bag (al++[false]) arn lt)=hp2)(hsl:hp.all Ob.sole=true):∀ Z w M a0,Rel Z hp M w fr a0 N→
  ∃ M',Rel Z hp2 M' w (hdL L (al.length+1)++fr) a0 N∧Stp w (own hp M) w (own hp2 M')∧Agr hp.length M M':=by
 subst h2
 have hbl:bg<hp.length:=(gEs.1 hbag).1
 have:=Kkk (N:=N) (fr:=hdL L (al.length+1)++fr) (hp:=(hp.set id .dead).set bg (.bag (al++[false]) (a :: ar) lt)) (bg:=bg) (arn:=arn) (gSs (by simpa using hbl)) hperm
 rw[List.set_set] at this
 exact Kkl (by simp) (Kkj L ht ho hl hoa hat hbag hsl) this
end
end Go.Gk
namespace Go.Gk
def hGet{α:Type}(l:List (Nat×α)):Nat→Option α
 | 0=>none
 | t+1=>(l.find? fun e=>t==e.1).map (·.2)
def hSet{α:Type}(l:List (Nat×α))(h:Nat)(x:α):List (Nat×α):=match h with
 | 0=>l
 | t+1=>match l.findIdx? (fun e=>t==e.1) with
  | some i=>l.set i (t,x)
  | none=>l
def hDel{α:Type}(l:List (Nat×α))(h:Nat):List (Nat×α):=match h with
 | 0=>l
 | t+1=>match l.findIdx? (fun e=>t==e.1) with
  | some i=>l.eraseIdx i
  | none=>l
theorem Kkn{α:Type}{l:List (Nat×α)}{h:Nat}{x:α}(hh:hGet l h=some x):∃ t i,h=t+1∧l.findIdx? (fun e=>t==e.1)=some i∧l[i]?=some (t,x):=by
 cases h with
 | zero=>cases hh
 | succ t=>
  have h1:=Khz l t
  unfold mGet at h1
  have h2:(l.find? fun e=>t==e.1).map (·.2)=some x:=hh
  rw[h1] at h2
  cases hi:l.findIdx? (fun e=>t==e.1) with
  | none=>rw[hi] at h2;cases h2
  | some i=>
   rw[hi] at h2
   obtain⟨y,hy,rfl⟩:=oMs.1 h2
   obtain⟨hil,hk,_⟩:=lFi.1 hi
   have:l[i]=y:=by rw[gGe hil] at hy;exact oSi hy
   have hk':t=y.1:=by rw[←this];simpa using hk
   refine⟨t,i,rfl,hi,?_⟩
   rw[hy,hk']
abbrev arG{α:Type}(f:Nat→α→Ar)(l:List (Nat×α)):List Ar:=l.map fun e=>f e.1 e.2
abbrev fM{K V:Type}(kv:K→Value)(agg:Bool)(enc:V→List D)(t:Nat)(m:List (K×V)):Ar:=.map t agg (m.map fun e=>(kv e.1,enc e.2))
abbrev fB{X:Type}(ty:TypeId)(enc:X→List D)(t:Nat)(x:X):Ar:=.box t ty (enc x)
def ArU(ar:List Ar)(h:Nat)(a a':Ar)(arn:List Ar):Prop:=h=a.t+1∧a'.t=a.t∧∃ ar',ar.Perm (a :: ar')∧arn.Perm (a' :: ar')
def ArD(ar:List Ar)(h:Nat)(a:Ar)(ar':List Ar):Prop:=h=a.t+1∧ar.Perm (a :: ar')
theorem ArU.l{ar arn:List Ar}{h:Nat}{a a':Ar}(r:List Ar)(hu:ArU ar h a a' arn):ArU (ar++r) h a a' (arn++r):=
 let ⟨h1,h2,ar',h3,h4⟩:=hu;⟨h1,h2,ar'++r,h3.append_right r,h4.append_right r⟩
theorem ArU.r{ar arn:List Ar}{h:Nat}{a a':Ar}(l:List Ar)(hu:ArU ar h a a' arn):ArU (l++ar) h a a' (l++arn):=
 let ⟨h1,h2,ar',h3,h4⟩:=hu;⟨h1,h2,l++ar',(h3.append_left l).trans List.perm_middle,(h4.append_left l).trans List.perm_middle⟩
theorem ArD.l{ar ar':List Ar}{h:Nat}{a:Ar}(r:List Ar)(hu:ArD ar h a ar'):ArD (ar++r) h a (ar'++r):=⟨hu.1,hu.2.append_right r⟩
theorem ArD.r{ar ar':List Ar}{h:Nat}{a:Ar}(l:List Ar)(hu:ArD ar h a ar'):ArD (l++ar) h a (l++ar'):=⟨hu.1,(hu.2.append_left l).trans List.perm_middle⟩
theorem Kko{α:Type}{f:Nat→α→Ar}{l:List (Nat×α)}{h:Nat}{x:α}(hf:∀ t x,(f t x).t=t)(hh:hGet l h=some x)(x':α):ArU (arG f l) h (f (h - 1) x) (f (h - 1) x') (arG f (hSet l h x')):=by
 obtain⟨t,i,rfl,h1,h2⟩:=Kkn hh
 refine⟨by rw[hf];rfl,by rw[hf,hf],arG f (l.eraseIdx i),?_,?_⟩
 ·exact((Kic (t,x) h2).2.map _)
 have:hSet l (t+1) x'=l.set i (t,x'):=by simp only[hSet,h1]
 rw[this]
 exact((Kic (t,x') h2).1.map _)
theorem Kkp{α:Type}{f:Nat→α→Ar}{l:List (Nat×α)}{h:Nat}{x:α}(hf:∀ t x,(f t x).t=t)(hh:hGet l h=some x):ArD (arG f l) h (f (h - 1) x) (arG f (hDel l h)):=by
 obtain⟨t,i,rfl,h1,h2⟩:=Kkn hh
 refine⟨by rw[hf];rfl,?_⟩
 have:hDel l (t+1)=l.eraseIdx i:=by simp only[hDel,h1]
 rw[this]
 exact((Kic (t,x) h2).2.map _)
theorem Kkq{α:Type}{f:Nat→α→Ar}{l:List (Nat×α)}{t:Nat}{x:α}:(arG f ((t,x) :: l)).Perm (f t x :: arG f l):=.refl _
theorem Kkr{ar arn:List Ar}{a:Ar}(r:List Ar)(h:arn.Perm (a :: ar)):(arn++r).Perm (a :: (ar++r)):=h.append_right r
theorem Kks{ar arn:List Ar}{a:Ar}(l:List Ar)(h:arn.Perm (a :: ar)):(l++arn).Perm (a :: (l++ar)):=(h.append_left l).trans List.perm_middle
abbrev eH(kd:Option Nat)(h:Nat):List D:=[.hd kd h]
theorem Fr.ev_ne{fr:Fr}{y:Operand}{g g' g1:G}{t:Nat}(ht:fr.get t=some g1)(hy:fr.ev y=some g)(hne:g≠g1):Fr.ev ((t,g') :: fr) y=some g:=by
 cases y with
 | tmp u=>
  simp only[Fr.ev,Fr.get] at hy ⊢
  cases hk:Nat.beq t u with
  | true=>
   have:=nEq hk
   subst this
   rw[ht] at hy
   exact absurd (oSi hy).symm hne
  | false=>exact hy
 | const c=>exact hy
 | global g=>exact hy
 | func f=>exact hy
theorem Fr.ev_here{fr:Fr}{g:G}{t:Nat}:Fr.ev ((t,g) :: fr) (.tmp t)=some g:=by simp[Fr.ev,Fr.get]
def ZDv(agg:Bool)(ds:List D)(v:Value):Prop:=∀ w O,DV w O agg ds v
theorem Kkt{v:Value}{agg:Bool}{ds:List D}(hz:zD v=ds)(ha:isAggV v=agg)(h:(v.cells.toList.all (·.oneCell'))=true):ZDv agg ds v:=fun w O=>hz▸Kht ha h
theorem Kku{v:Value}{kd:Option Nat}(hz:v=hval kd none):ZDv false (eH kd 0) v:=fun w O=>⟨_,rfl,by rw[hz];exact .hd _ _ _ rfl⟩
theorem G.Le.hdN{kd:Option Nat}:G.Le (.d (.v (hval kd none))) (.d (.hd kd 0)):=fun w O M v hv=>by
 rw[vr_v hv]
 exact .d (.hd _ _ _ rfl)
section
variable{P:Program}{Γ:TypeId→Option TI}{F N:Nat}{Q:GPost}{fr fr':Fr}{hp hp':List Ob}{ks:List Kt}
variable{ops:Array Oper}{rest:List Oper}{g:G}
variable{d:Tmp}{op:Op}{ty t':TypeId}{pos:String}{after:Array Edge}{gd:Option (Nat×Bool)}
variable{K V:Type}[BEq K][KLt K]{kv:K→Value}{agg:Bool}{enc:V→List D}
theorem Kkv(hΓ:TOK P Γ){t kt et:TypeId}{i1 i2 i3:TI}{x y:Operand}{id:Nat}{st:Option (List (Value×List D)×List Nat×Nat)}(m:List (K×V))(k:K)(z:V){gv:G}(h1:Γ t=some i1)(h1':i1.desc=.map kt et)(h2:Γ kt=some i2)(h3:Γ et=some i3)(hK:KeyOk i2.desc kv)
  (hx:fr.ev x=some (.map id)) (ho:hp[id]?=some (mObS kv agg enc m st)) (hy:fr.ev y=some (.d (.v (kv k)))) (hz:ZDv agg (enc z) i3.zero)
  (hg:dG agg (enc ((mGet m k).getD z))=some gv):OpP P N ⟨some d,.lookup t x y false,ty,pos,after,gd⟩ fr hp gv:=fun Z w M a hr=>by
 obtain⟨u1,_⟩:=hΓ t _ h1
 rw[h1'] at u1
 obtain⟨u2,_⟩:=hΓ kt _ h2
 obtain⟨u3,inf,e1,e2,e3,e4⟩:=hΓ et _ h3
 have hvx:=hr.ev hx
 simp only[execOp,hr.ev_v hy]
 generalize a.eval x=vx at hvx
 cases hvx with
 | map hM=>
  obtain⟨m',ms,cl,hA⟩:=Khy hr.heap ho hM
  have m1:=hA.heap
  have m4:=hA.get
  have hf:=MapKept.run_findKey (P:=P) (w:=w) u2 (hA.find hK k)
  have hc:=MapKept.run_checkKey (P:=P) (w:=w) u2 (hK.key k) ms.isEmpty 9999
  rw[←Khx hK hA.perm hA.apart] at hg
  rw[Khz] at hg
  cases hi:m'.findIdx? fun e=>k==e.1 with
  | none=>
   rw[hi] at hf hg
   simp only[Option.bind_none,Option.getD_none] at hf hg
   refine⟨i3.zero,?_,(hz _ _).vr hg⟩
   simp[Instr.lookup,run_underlying u1,MapKept.run_getObj_map m1,hc,hf,zeroValue,typeInfo,e1,e4]
  | some j=>
   rw[hi] at hf hg
   have hj:j<m'.length:=(lFi.1 hi).1
   obtain⟨e,f1,f2,f3⟩:=m4 j _ (gGe hj)
   simp only[Option.bind_some,f1,List.getElem?_eq_getElem hj,Option.map_some,Option.getD_some] at hf hg
   refine⟨e.val,?_,f3.vr hg⟩
   simp[Instr.lookup,run_underlying u1,MapKept.run_getObj_map m1,hc,hf]
theorem Kkw{o:Oper}{bg h:Nat}{kd:Option Nat}{al:List Bool}{ar arn:List Ar}{lt:List (Nat×Nat)}{a a':Ar}(t:Tmp)(hx:fr.get t=some (.d (.hd kd h)))(hbag:hp[bg]?=some (.bag al ar lt))(hu:ArU ar h a a' arn)(hg:g.bel 0=true)
  (k:∀ ar',OpP P N o ((t,hdG kd hp.length) :: fr) (hp.set bg (.bag al ar' ((a.t,hp.length) :: lt))++[a.ob]) g) (hnr:a.isRow=false:=by rfl):OpP P N o fr hp g:=fun Z w M a0 hr=>by
 obtain⟨rfl,_,ar',hperm,_⟩:=hu
 obtain⟨M',h1,h2,h3⟩:=Kkg t hx hbag hperm hnr Z w M a0 hr
 obtain⟨v,hrun,hv⟩:=k ar' Z w M' a0 h1
 refine⟨v,hrun,?_⟩
 have e:ownZ Z (hp.set bg (.bag al ar' ((a.t,hp.length) :: lt))++[a.ob]) M'=ownZ Z hp M:=by unfold ownZ;rw[h2];congr 1;exact congrArg Ow.h h2
 rw[e] at hv
 exact hv.move (k:=0) (.refl _ _) (fun i hi=>absurd hi (Nat.not_lt_zero i)) hg
theorem Kkx{o:Oper}{bg h:Nat}{kd:Option Nat}{al:List Bool}{ar arn:List Ar}{a a':Ar}(t:Tmp)(o':Ob)(hx:fr.get t=some (.d (.hd kd h)))(hbag:hp[bg]?=some (.bag al ar []))(hu:ArU ar h a a' arn)(hl:o'.live=true)(hoa:a'.of o')
  (k:∀ ar',OpU P N o ((t,hdG kd hp.length) :: fr) (hp.set bg (.bag al ar' [(a.t,hp.length)])++[a.ob]) ((hp.set bg (.bag al ar' [(a.t,hp.length)])++[a.ob]).set hp.length o')) (hnr:a.isRow=false:=by rfl):OpU P N o fr hp (hp.set bg (.bag al arn [])):=fun Z w M a0 hr=>by
 obtain⟨rfl,hat,ar',hperm,hperm'⟩:=hu
 have hbl:bg<hp.length:=(gEs.1 hbag).1
 obtain⟨M',h1,h2,h3⟩:=Kkg t hx hbag hperm hnr Z w M a0 hr
 obtain⟨w',M2,hrun,k1,k2,k3⟩:=k ar' Z w M' a0 h1
 have e1:(hp.set bg (.bag al ar' [(a.t,hp.length)])++[a.ob]).set hp.length o'=hp.set bg (.bag al ar' [(a.t,hp.length)])++[o']:=by
  rw[List.set_append_right _ _ (by simp)];simp
 rw[e1] at k1 k2
 have hb2:(hp.set bg (.bag al ar' [(a.t,hp.length)])++[o'])[bg]?=some (.bag al ar' [(a'.t,hp.length)]):=by
  rw[gAl (by simpa using hbl),gSs hbl,hat]
 have ho2:(hp.set bg (.bag al ar' [(a.t,hp.length)])++[o'])[hp.length]?=some o':=by
  rw[gAr (by simp)];simp
 obtain⟨r1,r2⟩:=k1.back hb2 ho2 hl hoa
 have e2:((hp.set bg (.bag al ar' [(a.t,hp.length)])++[o']).set hp.length .dead).set bg (.bag al (a' :: ar') [])=hp.set bg (.bag al (a' :: ar') [])++[.dead]:=by
  rw[List.set_append_right _ _ (by simp)]
  simp only[List.length_set,Nat.sub_self,List.set_cons_zero]
  rw[List.set_append_left _ _ (by simpa using hbl),List.set_set]
 rw[e2] at r1 r2
 have hb3:HB (hp.set bg (.bag al (a' :: ar') [])).length (hp.set bg (.bag al (a' :: ar') [])):=fun i q hq=>by
  rw[List.length_set]
  by_cases hi:bg=i
  ·subst hi;rw[gSs hbl] at hq;cases hq;rfl
  ·rw[gSn hi] at hq;exact hr.heap.hb i q hq
 have r3:=r1.cut hb3
 have hlen:(hp.set bg (.bag al (a' :: ar') [])).length=hp.length:=by simp
 have s3:Stp w (own hp M) w' (own (hp.set bg (.bag al (a' :: ar') [])++[.dead]) M2):=by
  rw[r2];rw[h2] at k2;exact k2
 have s4:=Koo s3
 have hb4:(hp.set bg (.bag al (a' :: ar') []))[bg]?=some (.bag al (a' :: ar') []):=gSs hbl
 obtain⟨r5,r6⟩:=r3.reperm hb4 hperm'
 rw[List.set_set] at r5 r6
 refine⟨w',_,hrun,r5,by rw[r6];exact s4,?_⟩
 have hA:Agr hp.length M M2:=h3.trans k3 (by simp)
 rw[hlen]
 exact hA.cut (Nat.le_refl _) hA.le
theorem Kky{bg:Nat}{b:Ob}{o:Ob}:(hp.set bg b++[o])[hp.length]?=some o:=by
 rw[gAr (by simp)];simp
theorem Kkz(hΓ:TOK P Γ){t e:TypeId}{i1:TI}{x y:Operand}{h off:Nat}(h1:Γ t=some i1)(h1':i1.desc=.pointer e)(hx:fr.ev x=some (.d (.hd (some off) h)))(hy:y=.const (.pointer none)) :
  OpP P N ⟨some d,.binOp .eql t x y t',ty,pos,after,gd⟩ fr hp (B (h==0))∧OpP P N ⟨some d,.binOp .neq t x y t',ty,pos,after,gd⟩ fr hp (B (!(h==0))):=by
 constructor<;>intro Z w M a hr
 all_goals
  obtain⟨u1,_⟩:=hΓ t _ h1
  rw[h1'] at u1
  have hyv:a.eval y=.pointer none:=by subst hy;rfl
  have hvx:=hr.ev hx
  generalize hq:a.eval x=vx at hvx
  have hv:∃ p:Option Addr,vx=.pointer p∧p.isNone=(h==0):=by
   cases hvx with
   | d hd=>cases hd with
    | hd _ _ _ hd=>
     cases h with
     | zero=>exact⟨none,hd,rfl⟩
     | succ t=>obtain⟨x,_,_,e⟩:=hd;exact⟨some ⟨x.b,off,none⟩,e,rfl⟩
  obtain⟨p,rfl,hp0⟩:=hv
  rw[←hp0]
  refine⟨_,?_,.d (.v _ rfl)⟩
  first
   | (simp[execOp,hyv,hq,eqGuard,(Kja (P:=P) (w:=w) t e p u1).1];done)
   | (simp[execOp,hyv,hq,eqGuard,(Kja (P:=P) (w:=w) t e p u1).2];done)
theorem Kla{α:Type}{l:List (Nat×α)}{h:Nat}{x:α}(hh:hGet l h=some x):0<h:=by
 obtain⟨t,i,rfl,_⟩:=Kkn hh;omega
end
end Go.Gk
namespace Go.Gk
def rangeW{α σ:Type}(f:α→σ→Option σ)(m:List α)(s:σ)(Q:σ→Prop):Prop:=∀ m':List α,m'.Perm m→∃ r,rangeL f m' s=some r∧Q r
def okW{α:Type}(o:Option α)(Q:α→Prop):Prop:=∃ r,o=some r∧Q r
def loopW{σ ρ:Type}(G:σ→(LS σ ρ→Prop)→Prop):Nat→σ→(ρ→Prop)→Prop
 | 0,_,_=>False
 | k+1,s,Q=>G s fun x=>match x with
  | .go s'=>loopW G k s' Q
  | .out r=>Q r
noncomputable def loopD {σ ρ:Type} (G:σ→(LS σ ρ→Prop)→Prop) (k:Nat) (s:σ):Option ρ:=
 open Classical in if h:∃ r,loopW G k s (fun r'=>r'=r) then some (Classical.choose h) else none
structure WOk{σ ρ:Type}(G:σ→(LS σ ρ→Prop)→Prop):Prop where
 mono:∀ s (C D:LS σ ρ→Prop),(∀ x,C x→D x)→G s C→G s D
 both:∀ s (C D:LS σ ρ→Prop),G s C→G s D→∃ x,C x∧D x
section
variable{P:Program}{F N:Nat}{Q:GPost}{fr fr':Fr}{hp hp':List Ob}{ks:List Kt}
variable{K V:Type}[BEq K][KLt K]{kv:K→Value}{agg:Bool}{enc:V→List D}
theorem Klb{σ:Type}{c:Code}{f:K×V→σ→Option σ}{s0:σ}{C:σ→Prop}{m m':List (K×V)}{bs:List Nat}(h:rangeW f m s0 C)(hpm:m'.Perm m)(hl:bs.length=m'.length)(hn:bs.Nodup)
  (st:σ→Fr) (ob:List Nat→σ→List Ob) (hm:MidP F (st s0) (ob [] s0) fr hp)
  (round:∀ (seen:List Nat) (s:σ),((∀ b∈bs,b∈seen)→C s)→(∀ (j:Nat) (y:K×V) (b:Nat),m'[j]?=some y→bs[j]?=some b→b ∉ seen→∃ s',f y s=some s')→
   St.holds P F N Q (.code c (.mid (fun fr' hp'=>∃ (j:Nat) (y:K×V) (b:Nat) (s':σ),m'[j]?=some y∧bs[j]?=some b∧b ∉ seen∧f y s=some s'∧MidP F (st s') (ob (seen++[b]) s') fr' hp') :: ks)) (st s) (ob seen s)) :
  St.holds P F N Q (.code (.loop c) ks) fr hp:=by
 have hz:(m'.zip bs).map (·.2)=bs:=List.map_snd_zip (by omega)
 have hz1:(m'.zip bs).map (·.1)=m':=List.map_fst_zip (by omega)
 refine Kcm hm ?_
 refine Koq (fun n fr hp=>∃ seen s,n=(remL (m'.zip bs) seen).length∧(∀ l,l.Perm (remL (m'.zip bs) seen)→∃ r,rangeL f l s=some r∧C r)∧fr=st s∧hp=ob seen s) _ ⟨[],s0,rfl,fun l hl'=>?_,rfl,rfl⟩ ?_
 ·refine h l (hl'.trans ?_)
  have:remL (m'.zip bs) []=m':=by
   unfold remL
   rw[List.filter_eq_self.2 fun e _=>by simp,hz1]
  rw[this]
  exact hpm
 rintro n fr hp ⟨seen,s,rfl,hI,rfl,rfl⟩
 have hstep:∀ (j:Nat) (y:K×V) (b:Nat),m'[j]?=some y→bs[j]?=some b→b ∉ seen→∃ s',f y s=some s'∧(∀ l,l.Perm (remL (m'.zip bs) (seen++[b]))→∃ r,rangeL f l s'=some r∧C r)∧(remL (m'.zip bs) (seen++[b])).length<(remL (m'.zip bs) seen).length:=fun j y b hj hb hns=>by
  have hp:=Kik hns (l:=m'.zip bs) (j:=j) (by rw[List.getElem?_zip_eq_some];exact⟨hj,hb⟩) (by rw[hz];exact hn)
  obtain⟨r1,h1,_⟩:=hI _ hp.symm
  simp only[rangeL] at h1
  cases hs:f y s with
  | none=>rw[hs] at h1;cases h1
  | some s'=>
   refine⟨s',rfl,fun l hl'=>?_,by have:=hp.length_eq;simp at this;omega⟩
   have h2:=hI (y :: l) ((hl'.cons y).trans hp.symm)
   simp only[rangeL,hs] at h2
   exact h2
 refine Koh (round seen s (fun hd=>?_) fun j y b hj hb hns=>let ⟨s',h1,_⟩:=hstep j y b hj hb hns;⟨s',h1⟩) fun e fr' hp' h'=>?_
 ·have h0:remL (m'.zip bs) seen=[]:=Kii fun e he=>hd e.2 (by rw[←hz];exact List.mem_map.2 ⟨e,he,rfl⟩)
  obtain⟨r,h1,h2⟩:=hI [] (by rw[h0])
  cases h1
  exact h2
 ·cases e with
  | normal=>
   obtain⟨j,y,b,s',hj,hb,hns,hs,hm'⟩:=h'
   obtain⟨s2,h1,h2,h3⟩:=hstep j y b hj hb hns
   rw[hs] at h1
   cases h1
   obtain⟨ex,e1,e2,e3⟩:=hm'.ex
   exact⟨_,st s',ob (seen++[b]) s',ex,h3,⟨seen++[b],s',rfl,h2,rfl,rfl⟩,e1,e2,e3⟩
  | _=>exact h'
end
end Go.Gk
namespace Go.Gk
structure KeyP(P:Program){K:Type}[BEq K](kt:TypeId)(kv:K→Value):Prop where
 find:∀ (w:World) (k:K) (l:List MapEntry) (m:List K),l.length=m.length→(∀ (j:Nat) (e:MapEntry) (x:K),l[j]?=some e→m[j]?=some x→e.key=kv x)→
  (Instr.findKey kt (kv k) l).run P w=.ok ((m.findIdx? fun x=>k==x).bind fun j=>(l[j]?).map fun e=>(j,e.val)) w
 check:∀ (w:World) (em:Bool) (k:K),(Instr.checkKey em 10000 kt (kv k)).run P w=.ok () w
 bits:∀ a b:K,(a==b)=true→Instr.sameBits 10000 (kv b) (kv a)=true
 ne:∀ a b:K,(a==b)=false→kv b≠kv a
 eq:∀ a b:K,(a==b)=true→a=b
 refl:∀ a:K,(a==a)=true
abbrev D.val:D→Value
 | .v x=>x
 | _=>.bool false
abbrev kD{K:Type}(enc:K→List D)(k:K):Value:=.agg ((enc k).map D.val).toArray
abbrev kG{K:Type}(enc:K→List D)(k:K):G:=.agg ((enc k).map G.d)
theorem Klc(a:Array UInt8):((⟨a⟩:ByteArray)==⟨a⟩)=true:=by
 show(a==a)=true
 simp
def Env.nil:Env:=⟨fun _=>False,fun _=>False,fun _ h=>h,fun _=>False,fun _ _ _ h=>h,fun _ h=>h.elim⟩
def D.isVal:D→Bool
 | .v x=>x.oneCell'
 | _=>false
theorem Kld{K:Type}{enc:K→List D}(hv:∀ k,(enc k).all D.isVal=true)(w:World)(O:Ow)(M:Mp)(k:K):VR w O M (kG enc k) (kD enc k):=by
 refine .agg (by simp) fun j g v hg h=>?_
 rw[gMp] at hg
 obtain⟨d,hd,rfl⟩:=oMs.1 hg
 have hc:=lAe.1 (hv k) d (mOg hd)
 have h':v=D.val d:=by
  simp[hd] at h
  exact h.symm
 subst h'
 match d,hc with
 | .v x,hc=>exact .d (.v _ hc)
theorem Kle{K:Type}{enc:K→List D}(hv:∀ k,(enc k).all D.isVal=true){w:World}{O:Ow}{M:Mp}{k:K}{v:Value}(h:VR w O M (kG enc k) v):v=kD enc k:=by
 cases h with
 | agg hl hr=>
  rename_i cs
  congr 1
  apply Array.ext
  ·simpa using hl
  intro j h1 h2
  have hj:j<(enc k).length:=by simpa using h2
  have hd:(enc k)[j]?=some (enc k)[j]:=gGe hj
  have hc:=lAe.1 (hv k) _ (List.getElem_mem hj)
  have:=hr j (.d (enc k)[j]) cs[j] (by rw[gMp,hd];rfl) (Array.getElem?_eq_getElem h1)
  simp only[List.getElem_toArray,List.getElem_map]
  generalize (enc k)[j]=d at *
  match d,hc with
  | .v x,hc=>exact vr_v this
def flatK:TypeDesc→Bool
 | .int _ | .bool | .string=>true
 | _=>false
theorem Klf{P:Program}{w:World}{t:TypeId}{d:TypeDesc}(hu:P.underlying t=some d)(hd:flatK d=true)(em:Bool)(n:Nat)(v:Value):(Instr.checkKey em (n+1) t v).run P w=.ok () w:=by
 unfold Instr.checkKey
 simp only[Sem.run_bind,run_underlying hu,Result.andThen]
 cases d<;>simp_all [flatK]
def flatFs(Γ:TypeId→Option TI)(xs:List G):List Field→Bool
 | []=>true
 | f :: fs=>(match Γ f.type with
  | some ⟨.int k,a,b,z⟩=>(partG ⟨.int k,a,b,z⟩ xs f.offset).isSome
  | some ⟨.bool,a,b,z⟩=>(partG ⟨.bool,a,b,z⟩ xs f.offset).isSome
  | some ⟨.string,a,b,z⟩=>(partG ⟨.string,a,b,z⟩ xs f.offset).isSome
  | _=>false)&&flatFs Γ xs fs
section
variable{P:Program}{Γ:TypeId→Option TI}
theorem Klg{K:Type}[BEq K](hΓ:TOK P Γ)(L:List Nat){kt:TypeId}{fs:Array Field}{sz by_:Nat}{z:Value}(enc:K→List D)(h:Γ kt=some ⟨.struct fs,sz,by_,z⟩)(hL:(L.all fun t=>!P.stoodInHeld t)=true)(hv:∀ k,(enc k).all D.isVal=true)
  (hf:∀ k,flatFs Γ ((enc k).map G.d) fs.toList=true) (he:∀ a b:K,eqG Γ L 9 kt (kG enc a) (kG enc b)=some (a==b)) (heq:∀ a b:K,(a==b)=true→a=b) (hre:∀ a:K,(a==a)=true) (hb:∀ a:K,Instr.sameBits 10000 (kD enc a) (kD enc a)=true):KeyP P kt (kD enc):=by
 obtain⟨hu,_⟩:=hΓ kt _ h
 have hvr:=fun w k=>Kld hv w (ownZ Env.nil [] ⟨[],[]⟩) ⟨[],[]⟩ k
 have hE:∀ (w:World) (a b:K),(Op.equal kt (kD enc a) (kD enc b)).run P w=.ok (a==b) w:=fun w a b=>Kel (P:=P) (hp:=[]) (Z:=Env.nil) hΓ hL 9 10000 kt _ _ _ _ _ (he a b) (by decide) (hvr w a) (hvr w b)
 refine⟨fun w k l m hl hk=>?_,fun w em k=>?_,fun a b hab=>?_,fun a b hab hc=>?_,heq,hre⟩
 ·rw[run_findKey_eq w (by rw[hu])]
  have key:∀ (l:List MapEntry) (m:List K) (i:Nat),l.length=m.length→(∀ (j:Nat) (e:MapEntry) (x:K),l[j]?=some e→m[j]?=some x→e.key=kD enc x)→
    (Instr.findAsking kt (kD enc k) l i).run P w=.ok ((m.findIdx? fun x=>k==x).bind fun j=>(l[j]?).map fun e=>(i+j,e.val)) w:=by
   intro l
   induction l with
   | nil=>
    intro m i hl _
    cases m with
    | nil=>simp[Instr.findAsking]
    | cons _ _=>simp at hl
   | cons e l ih=>
    intro m i hl hk
    cases m with
    | nil=>simp at hl
    | cons x m=>
     have h0:=hk 0 e x (by simp) (by simp)
     have ih':=ih m (i+1) (by simpa using hl) fun j e x he hx=>hk (j+1) e x (by simpa using he) (by simpa using hx)
     simp only[Instr.findAsking,h0,Sem.run_bind,hE,Result.andThen_ok,List.findIdx?_cons]
     cases hb:(k==x) with
     | true=>simp
     | false=>
      simp only[Bool.false_eq_true,if_false,ih']
      cases m.findIdx? fun x=>k==x with
      | none=>rfl
      | some j=>simp[Nat.add_assoc,Nat.add_comm 1 j]
  simpa using key l m 0 hl hk
 ·have hg:=hf k
  have hpr:=hvr w k
  show(Instr.checkKey em (9999+1) kt (.agg ((enc k).map D.val).toArray)).run P w=.ok () w
  rw[Instr.checkKey]
  simp only[Sem.run_bind,run_underlying hu,Result.andThen_ok]
  rw[←Array.forIn_toList]
  generalize fs.toList=l at hg
  induction l with
  | nil=>simp
  | cons f l ih=>
   simp only[flatFs,Bool.and_eq_true] at hg
   have step:∃ (i:TI) (va:Value),Γ f.type=some i∧flatK i.desc=true∧(part f.type ((enc k).map D.val).toArray f.offset).run P w=.ok va w:=by
    have h1:=hg.1
    split at h1
    ·rename_i a b c d hi
     obtain⟨ga,hga⟩:=Option.isSome_iff_exists.1 h1
     obtain⟨va,e1,_⟩:=Kpk (P:=P) (hp:=[]) (Z:=Env.nil) (M:=⟨[],[]⟩) hΓ hi hpr hga
     exact⟨_,va,hi,rfl,e1⟩
    ·rename_i b c d hi
     obtain⟨ga,hga⟩:=Option.isSome_iff_exists.1 h1
     obtain⟨va,e1,_⟩:=Kpk (P:=P) (hp:=[]) (Z:=Env.nil) (M:=⟨[],[]⟩) hΓ hi hpr hga
     exact⟨_,va,hi,rfl,e1⟩
    ·rename_i b c d hi
     obtain⟨ga,hga⟩:=Option.isSome_iff_exists.1 h1
     obtain⟨va,e1,_⟩:=Kpk (P:=P) (hp:=[]) (Z:=Env.nil) (M:=⟨[],[]⟩) hΓ hi hpr hga
     exact⟨_,va,hi,rfl,e1⟩
    ·cases h1
   obtain⟨i,va,hi,hd,e1⟩:=step
   obtain⟨hu',_⟩:=hΓ f.type _ hi
   have e2:=Klf (P:=P) (w:=w) hu' hd em 9998 va
   simp only[List.forIn_cons,Sem.run_bind]
   by_cases hn:f.name = "_"
   ·simp only[hn,ne_eq,not_true_eq_false,if_false,Sem.run_pure,Result.andThen_ok]
    exact ih hg.2
   ·simp only[hn,ne_eq,not_false_eq_true,if_true,e1,e2,Result.andThen_ok,Sem.run_bind,Sem.run_pure]
    exact ih hg.2
 ·obtain rfl:=heq a b hab
  exact hb a
 ·have h1:=hE (default:World) a b
  have h2:=hE (default:World) a a
  rw[hc,h2,hre] at h1
  rw[hab] at h1
  cases h1
end
theorem Klh{K V:Type}[BEq K]{kv:K→Value}(heq:∀ a b:K,(a==b)=true→a=b){m' m:List (K×V)}(hp:m'.Perm m)(ha:Apart kv m')(k:K):mGet m' k=mGet m k:=by
 unfold mGet
 cases h1:m'.find? fun e=>k==e.1 with
 | none=>
  have:m.find? (fun e=>k==e.1)=none:=List.find?_eq_none.2 fun x hx=>List.find?_eq_none.1 h1 x (hp.mem_iff.2 hx)
  rw[this]
 | some x=>
  have hx:=List.mem_of_find?_eq_some h1
  have hkx:=heq k x.1 (List.find?_some (p:=fun e:K×V=>k==e.1) h1)
  cases h2:m.find? fun e=>k==e.1 with
  | none=>exact absurd (List.find?_some (p:=fun e:K×V=>k==e.1) h1) (List.find?_eq_none.1 h2 x (hp.mem_iff.1 hx))
  | some y=>
   have hy:=List.mem_of_find?_eq_some h2
   have hky:=heq k y.1 (List.find?_some (p:=fun e:K×V=>k==e.1) h2)
   rw[ha.one hx (hp.mem_iff.2 hy) (by rw[←hkx,←hky])]
section
variable{P:Program}{Γ:TypeId→Option TI}{F N:Nat}{Q:GPost}{fr fr':Fr}{hp hp':List Ob}{ks:List Kt}
variable{ops:Array Oper}{rest:List Oper}{g:G}
variable{d:Tmp}{op:Op}{ty:TypeId}{pos:String}{after:Array Edge}{gd:Option (Nat×Bool)}
variable{K V:Type}[BEq K][KLt K]{kv:K→Value}{agg:Bool}{enc:V→List D}{kenc:K→List D}
theorem MapAt.findP{kt:TypeId}{w:World}{O:Ow}{b:Nat}{m m':List (K×V)}{st}{ms:Array MapEntry}{cl:Nat}(h:MapAt w O kv agg enc b m m' st ms cl)(hK:KeyP P kt kv)(k:K) :
  (Instr.findKey kt (kv k) ms.toList).run P w=.ok ((m'.findIdx? fun e=>k==e.1).bind fun j=>(ms[j]?).map fun e=>(j,e.val)) w:=by
 have:=hK.find w k ms.toList (m'.map (·.1)) (by simpa using h.size) (fun j e x he hx=>by
  rw[gMp] at hx
  obtain⟨y,hy,rfl⟩:=oMs.1 hx
  obtain⟨e',e1,e2,_⟩:=h.get j y hy
  have:e=e':=by
   have he':ms[j]?=some e:=by simpa using he
   rw[e1] at he';exact(oSi he').symm
  rw[this];exact e2)
 rw[this,List.findIdx?_map]
 congr 2
 funext j
 simp
theorem Kli(hΓ:TOK P Γ){t kt et:TypeId}{i1 i3:TI}{x y:Operand}{id:Nat}{st:Option (List (Value×List D)×List Nat×Nat)}(m:List (K×V))(k:K)(z:V){gv:G}(h1:Γ t=some i1)(h1':i1.desc=.map kt et)(h3:Γ et=some i3)(hK:KeyP P kt (kD kenc))(hkv:∀ k,(kenc k).all D.isVal=true)
  (hx:fr.ev x=some (.map id)) (ho:hp[id]?=some (mObS (kD kenc) agg enc m st)) (hy:fr.ev y=some (kG kenc k)) (hz:zD i3.zero=enc z) (hag:isAggV i3.zero=agg) (hz1:(i3.zero.cells.toList.all (·.oneCell'))=true)
  (hg:dG agg (enc ((mGet m k).getD z))=some gv):OpP P N ⟨some d,.lookup t x y false,ty,pos,after,gd⟩ fr hp gv:=fun Z w M a hr=>by
 obtain⟨u1,_⟩:=hΓ t _ h1
 rw[h1'] at u1
 obtain⟨u3,inf,e1,e2,e3,e4⟩:=hΓ et _ h3
 have hvx:=hr.ev hx
 have hvy:=Kle hkv (hr.ev hy)
 simp only[execOp,hvy]
 generalize a.eval x=vx at hvx
 cases hvx with
 | map hM=>
  obtain⟨m',ms,cl,hA⟩:=Khy hr.heap ho hM
  have m1:=hA.heap
  have m4:=hA.get
  have hf:=hA.findP hK k
  have hc:=hK.check w ms.isEmpty k
  rw[←Klh hK.eq hA.perm hA.apart] at hg
  rw[Khz] at hg
  cases hi:m'.findIdx? fun e=>k==e.1 with
  | none=>
   rw[hi] at hf hg
   simp only[Option.bind_none,Option.getD_none] at hf hg
   refine⟨i3.zero,?_,(Kht hag hz1).vr (by rw[hz];exact hg)⟩
   simp[Instr.lookup,run_underlying u1,MapKept.run_getObj_map m1,hc,hf,zeroValue,typeInfo,e1,e4]
  | some j=>
   rw[hi] at hf hg
   have hj:j<m'.length:=(lFi.1 hi).1
   obtain⟨e,f1,f2,f3⟩:=m4 j _ (gGe hj)
   simp only[Option.bind_some,f1,List.getElem?_eq_getElem hj,Option.map_some,Option.getD_some] at hf hg
   refine⟨e.val,?_,f3.vr hg⟩
   simp[Instr.lookup,run_underlying u1,MapKept.run_getObj_map m1,hc,hf]
theorem Klj(hΓ:TOK P Γ){t kt et:TypeId}{i1:TI}{x y z:Operand}{id:Nat}{st:Option (List (Value×List D)×List Nat×Nat)}(m:List (K×V))(k:K)(v:V){gv:G}(h1:Γ t=some i1)(h1':i1.desc=.map kt et)(hK:KeyP P kt (kD kenc))(hkv:∀ k,(kenc k).all D.isVal=true)
  (hx:fr.ev x=some (.map id)) (ho:hp[id]?=some (mObS (kD kenc) agg enc m st)) (hy:fr.ev y=some (kG kenc k)) (hv:fr.ev z=some gv) (hg:dG agg (enc v)=some gv) :
  OpU P N ⟨none,.mapUpdate t x y z,ty,pos,after,gd⟩ fr hp (hp.set id (mOb (kD kenc) agg enc (mSet m k v))):=fun Z w M a hr=>by
 obtain⟨u1,_⟩:=hΓ t _ h1
 rw[h1'] at u1
 have hvx:=hr.ev hx
 have hvz:=hr.ev hv
 have hvy:=Kle hkv (hr.ev hy)
 simp only[execOp,hvy]
 generalize a.eval x=vx at hvx
 generalize a.eval z=vz at hvz
 have hdz:DV w (ownZ Z hp M) agg (enc v) vz:=hvz.dv hg
 cases hvx with
 | map hM=>
  rename_i b c
  obtain⟨m',ms,cl,hA⟩:=Khy hr.heap ho hM
  have m1:=hA.heap
  have m2:=hA.size
  have m3:=hA.born
  have m4:=hA.get
  have hf:=hA.findP hK k
  have hc:=hK.check w false k
  cases hi:m'.findIdx? fun e=>k==e.1 with
  | none=>
   rw[hi] at hf
   simp only[Option.bind_none] at hf
   have hset:mSet m k v=mIns k v m:=by unfold mSet;rw[Kid hA.perm k hi]
   have hnk:∀ e∈m',kD kenc e.1≠kD kenc k:=fun e he hkv'=>by
    exact hK.ne k e.1 (List.findIdx?_eq_none_iff.1 hi e he) hkv'
   rw[hset]
   obtain⟨r1,r2⟩:=Khv (o':=mOb (kD kenc) agg enc (mIns k v m)) (ob':=.map (ms.push { key:=kD kenc k,val:=vz,born:=cl }) (cl+1)) hr.heap ho rfl hM (fun w' hst hh=>by
    refine⟨_,_,(m'++[(k,v)]).map fun e=>(kD kenc e.1,enc e.2),hh,?_,?_,fun raw h=>(by cases h),by simp[m2],⟨fun i j e e' hi hj hb=>?_,fun i e hi=>?_⟩,fun j k' ds hj=>?_⟩
    ·exact((hA.perm.append_right _).trans (Kho k v m).symm).map _
    ·rw[List.pairwise_map,List.pairwise_append]
     exact⟨hA.apart,List.pairwise_singleton _ _,fun e he e' he'=>by obtain rfl:=List.mem_singleton.1 he';exact hnk e he⟩
    ·rw[Array.getElem?_push] at hi hj
     split at hi<;>split at hj
     ·omega
     ·cases hi;have:=m3.2 j e' hj;simp only at hb;omega
     ·cases hj;have:=m3.2 i e hi;simp only at hb;omega
     ·exact m3.1 i j e e' hi hj hb
    ·rw[Array.getElem?_push] at hi
     split at hi
     ·cases hi;simp
     ·have:=m3.2 i e hi;omega
    ·simp only[List.map_append,List.map_cons,List.map_nil] at hj
     rcases Kqb hj with⟨hl,h'⟩ | ⟨hl,h'⟩
     ·rw[gMp] at h'
      obtain⟨x,hx,he⟩:=oMs.1 h'
      simp only[Prod.mk.injEq] at he
      obtain⟨rfl,rfl⟩:=he
      obtain⟨e,e1,e2,e3⟩:=m4 j x hx
      have hlt:=(aEs.1 e1).1
      exact⟨e,by rw[Array.getElem?_push_lt hlt,←Array.getElem?_eq_getElem hlt];exact e1,e2,e3.step hst⟩
     ·simp only[Prod.mk.injEq] at h'
      obtain⟨rfl,rfl⟩:=h'
      refine⟨{ key:=kD kenc k,val:=vz,born:=cl },?_,rfl,hdz.step hst⟩
      rw[hl,List.length_map,←m2]
      simp) rfl
   refine⟨_,M,?_,r1,r2,⟨Nat.le_of_eq hr.heap.len.symm,fun _ _=>rfl⟩⟩
   simp[Instr.mapUpdate,run_underlying u1,MapKept.run_getObj_map m1,hc,hf,MapKept.run_setObj_map _ m1]
  | some j=>
   rw[hi] at hf
   have hj:j<m'.length:=(lFi.1 hi).1
   have hkj:(k==(m'[j]).1)=true:=(lFi.1 hi).2.1
   have hkj':=hK.eq _ _ hkj
   obtain⟨e,f1,f2,f3⟩:=m4 j _ (gGe hj)
   simp only[Option.bind_some,f1,Option.map_some] at hf
   obtain⟨i,hi2⟩:∃ i,(m.findIdx? fun e=>k==e.1)=some i:=by
    cases h0:m.findIdx? fun e=>k==e.1 with
    | some i=>exact⟨i,rfl⟩
    | none=>rw[Kid hA.perm.symm k h0] at hi;cases hi
   have hil:i<m.length:=(lFi.1 hi2).1
   have hki:=hK.eq _ _ (lFi.1 hi2).2.1
   have hset:mSet m k v=m.set i (k,v):=by unfold mSet;rw[hi2]
   have hsame:m'[j]=m[i]:=hA.apart.one (List.getElem_mem hj) (hA.perm.mem_iff.2 (List.getElem_mem hil)) (by rw[←hkj',←hki])
   have hperm:(m'.set j (k,v)).Perm (m.set i (k,v)):=by
    obtain⟨a1,a2⟩:=Kic (k,v) (gGe hj)
    obtain⟨b1,b2⟩:=Kic (k,v) (gGe hil)
    rw[hsame] at a2
    exact a1.trans ((((a2.symm.trans hA.perm).trans b2).cons_inv.cons _).trans b1.symm)
   rw[hset]
   have hjs:=(aEs.1 f1).1
   have hbits:Instr.sameBits 10000 e.key (kD kenc k)=true:=by rw[f2];exact hK.bits k _ hkj
   obtain⟨r1,r2⟩:=Khv (o':=mOb (kD kenc) agg enc (m.set i (k,v))) (ob':=.map (ms.modify j fun e=>{ e with key:=kD kenc k,val:=vz }) cl) hr.heap ho rfl hM (fun w' hst hh=>by
    have hget:∀ (i:Nat) (e':MapEntry),(ms.modify j fun e=>{ e with key:=kD kenc k,val:=vz })[i]?=some e'→∃ e0,ms[i]?=some e0∧e'.born=e0.born:=fun i e' h=>by
     rw[Array.getElem?_modify] at h
     split at h
     ·obtain⟨e0,h0,rfl⟩:=oMs.1 h
      exact⟨e0,h0,rfl⟩
     ·exact⟨e',h,rfl⟩
    refine⟨_,_,(m'.set j (k,v)).map fun e=>(kD kenc e.1,enc e.2),hh,hperm.map _,?_,fun raw h=>(by cases h),by simp[m2],⟨fun i i' e1 e2 h1 h2 hb=>?_,fun i e1 h1=>?_⟩,fun i k' ds h=>?_⟩
    ·have hkeys:(m'.set j (k,v)).map (fun e=>kD kenc e.1)=m'.map (fun e=>kD kenc e.1):=by
      rw[List.map_set]
      apply List.ext_getElem?
      intro n
      rw[List.getElem?_set]
      split
      ·rename_i hn
       subst hn
       simp[hj,hkj']
      ·rfl
     rw[List.pairwise_map]
     have:=List.pairwise_map (f:=fun e:K×V=>kD kenc e.1) (R:=fun x y=>x≠y) (l:=m'.set j (k,v))
     rw[hkeys,List.pairwise_map] at this
     exact this.1 hA.apart
    ·obtain⟨a1,b1,c1⟩:=hget i e1 h1
     obtain⟨a2,b2,c2⟩:=hget i' e2 h2
     exact m3.1 i i' a1 a2 b1 b2 (by rw[←c1,←c2];exact hb)
    ·obtain⟨a1,b1,c1⟩:=hget i e1 h1
     rw[c1];exact m3.2 i a1 b1
    ·rw[gMp] at h
     obtain⟨x,hx,he⟩:=oMs.1 h
     simp only[Prod.mk.injEq] at he
     obtain⟨rfl,rfl⟩:=he
     by_cases hij:j=i
     ·subst hij
      rw[gSs hj] at hx
      cases hx
      exact⟨{ e with key:=kD kenc k,val:=vz },by rw[Array.getElem?_modify,if_pos rfl,f1];rfl,rfl,hdz.step hst⟩
     ·rw[gSn hij] at hx
      obtain⟨e1,g1,g2,g3⟩:=m4 i x hx
      exact⟨e1,by rw[Array.getElem?_modify,if_neg hij];exact g1,g2,g3.step hst⟩) rfl
   refine⟨_,M,?_,r1,r2,⟨Nat.le_of_eq hr.heap.len.symm,fun _ _=>rfl⟩⟩
   simp[Instr.mapUpdate,run_underlying u1,MapKept.run_getObj_map m1,hc,hf,MapKept.run_setObj_map _ m1,f1,Instr.keyThatStays,hbits]
end
end Go.Gk
namespace Go.Gk
def rangeLM{α σ ρ:Type}(f:α→σ→Option (LS σ ρ)):List α→σ→Option (LS σ ρ)
 | [],s=>some (.go s)
 | x :: l,s=>match f x s with
  | some (.go s')=>rangeLM f l s'
  | some (.out r)=>some (.out r)
  | none=>none
noncomputable def rangePM {α σ ρ:Type} (f:α→σ→Option (LS σ ρ)) (m:List α) (s:σ):Option (LS σ ρ):=
 open Classical in if h:∃ r,∀ m':List α,m'.Perm m→rangeLM f m' s=some r then some (Classical.choose h) else none
theorem Klk{α σ ρ:Type}{f:α→σ→Option (LS σ ρ)}{m:List α}{s:σ}{r:LS σ ρ}:rangePM f m s=some r ↔ ∀ m':List α,m'.Perm m→rangeLM f m' s=some r:=by
 unfold rangePM
 constructor
 ·intro h
  split at h
  ·rename_i hx
   cases h
   exact Classical.choose_spec hx
  cases h
 intro h
 have hx:∃ r,∀ m':List α,m'.Perm m→rangeLM f m' s=some r:=⟨r,h⟩
 rw[dif_pos hx]
 have h1:=Classical.choose_spec hx m (.refl _)
 rw[h m (.refl _)] at h1
 exact h1.symm
def asc(s:List UInt8):Bool:=s.all fun b=>decide (b.toNat<128)
theorem Kll(s:List UInt8)(i:Nat)(x:UInt8)(hx:s[i]?=some x)(h:x.toNat<128):Utf8.decode ⟨s.toArray⟩ i=(x.toNat,1):=by
 have e:(⟨s.toArray⟩:ByteArray).get! i=x:=by
  obtain⟨hi,e⟩:=gEs.1 hx
  show(s.toArray)[i]! = x
  simp[hx]
 unfold Utf8.decode
 simp only[Nat.add_zero,e]
 rw[if_pos h]
section
variable{P:Program}{Γ:TypeId→Option TI}{F N:Nat}{Q:GPost}{fr fr':Fr}{hp hp':List Ob}{ks:List Kt}
variable{ops:Array Oper}{rest:List Oper}{g:G}
variable{d:Tmp}{op:Op}{ty:TypeId}{pos:String}{after:Array Edge}{gd:Option (Nat×Bool)}
variable{K V:Type}[BEq K][KLt K]
theorem Klm{σ ρ:Type}{c:Code}{f:K×V→σ→Option (LS σ ρ)}{s0:σ}{r:LS σ ρ}{m m':List (K×V)}{bs:List Nat}(h:rangePM f m s0=some r)(hpm:m'.Perm m)(hl:bs.length=m'.length)(hn:bs.Nodup)
  (st:σ→Fr) (ob:List Nat→σ→List Ob) (hm:MidP F (st s0) (ob [] s0) fr hp)
  (round:∀ (seen:List Nat) (s:σ),((∀ b∈bs,b∈seen)→r=.go s)→(∀ (j:Nat) (y:K×V) (b:Nat),m'[j]?=some y→bs[j]?=some b→b ∉ seen→∃ r',f y s=some r'∧∀ v,r'=.out v→r=.out v)→
   St.holds P F N Q (.code c (.mid (fun fr' hp'=>∃ (j:Nat) (y:K×V) (b:Nat) (s':σ),m'[j]?=some y∧bs[j]?=some b∧b ∉ seen∧f y s=some (.go s')∧MidP F (st s') (ob (seen++[b]) s') fr' hp') :: ks)) (st s) (ob seen s)) :
  St.holds P F N Q (.code (.loop c) ks) fr hp:=by
 have hz:(m'.zip bs).map (·.2)=bs:=List.map_snd_zip (by omega)
 have hz1:(m'.zip bs).map (·.1)=m':=List.map_fst_zip (by omega)
 refine Kcm hm ?_
 refine Koq (fun n fr hp=>∃ seen s,n=(remL (m'.zip bs) seen).length∧(∀ l,l.Perm (remL (m'.zip bs) seen)→rangeLM f l s=some r)∧fr=st s∧hp=ob seen s) _ ⟨[],s0,rfl,fun l hl'=>?_,rfl,rfl⟩ ?_
 ·refine Klk.1 h l (hl'.trans ?_)
  have:remL (m'.zip bs) []=m':=by
   unfold remL
   rw[List.filter_eq_self.2 fun e _=>by simp,hz1]
  rw[this]
  exact hpm
 rintro n fr hp ⟨seen,s,rfl,hI,rfl,rfl⟩
 have hstep:∀ (j:Nat) (y:K×V) (b:Nat),m'[j]?=some y→bs[j]?=some b→b ∉ seen→∃ r',f y s=some r'∧(∀ v,r'=.out v→r=.out v)∧(∀ s',r'=.go s'→∀ l,l.Perm (remL (m'.zip bs) (seen++[b]))→rangeLM f l s'=some r)∧(remL (m'.zip bs) (seen++[b])).length<(remL (m'.zip bs) seen).length:=fun j y b hj hb hns=>by
  have hp:=Kik hns (l:=m'.zip bs) (j:=j) (by rw[List.getElem?_zip_eq_some];exact⟨hj,hb⟩) (by rw[hz];exact hn)
  have hlt:(remL (m'.zip bs) (seen++[b])).length<(remL (m'.zip bs) seen).length:=by have:=hp.length_eq;simp at this;omega
  have h1:=hI _ hp.symm
  simp only[rangeLM] at h1
  cases hs:f y s with
  | none=>rw[hs] at h1;cases h1
  | some r'=>
   rw[hs] at h1
   refine⟨r',rfl,fun v hv=>?_,fun s' hs' l hl'=>?_,hlt⟩
   ·subst hv
    exact(oSi h1).symm
   ·subst hs'
    have h2:=hI (y :: l) ((hl'.cons y).trans hp.symm)
    simp only[rangeLM,hs] at h2
    exact h2
 refine Koh (round seen s (fun hd=>?_) fun j y b hj hb hns=>let ⟨s',h1,h2,_⟩:=hstep j y b hj hb hns;⟨s',h1,h2⟩) fun e fr' hp' h'=>?_
 ·have h0:remL (m'.zip bs) seen=[]:=Kii fun e he=>hd e.2 (by rw[←hz];exact List.mem_map.2 ⟨e,he,rfl⟩)
  have:=hI [] (by rw[h0])
  cases this
  rfl
 ·cases e with
  | normal=>
   obtain⟨j,y,b,s',hj,hb,hns,hs,hm'⟩:=h'
   obtain⟨s2,h1,_,h2,h3⟩:=hstep j y b hj hb hns
   rw[hs] at h1
   cases h1
   obtain⟨ex,e1,e2,e3⟩:=hm'.ex
   exact⟨_,st s',ob (seen++[b]) s',ex,h3,⟨seen++[b],s',rfl,h2 s' rfl,rfl,rfl⟩,e1,e2,e3⟩
  | _=>exact h'
theorem Kln(hΓ:TOK P Γ){t:TypeId}{i1:TI}{x:Operand}(s:List UInt8)(h1:Γ t=some i1)(h1':i1.desc=.string)(hx:fr.ev x=some (.d (.v (.string ⟨s.toArray⟩))))(hd:Nat.blt d N=true)(hF:F≤hp.length)
  (k:EO P F N ops rest Q ((d,.ptr hp.length 0) :: fr) (hp++[.siter s 0])) :
  EO P F N ops (⟨some d,.range t x,ty,pos,after,none⟩ :: rest) Q fr hp:=by
 intro Z w0 O0 M0 w M a hs ha hr
 refine wpList_plain rfl fun K' hK'=>?_
 obtain⟨u1,_⟩:=hΓ t _ h1
 rw[h1'] at u1
 unfold Oper.wp
 simp only[execOp,hr.ev_v hx]
 obtain⟨q1,q2,q3⟩:=Khu hr.heap (.siter s 0) (.stringIter ⟨s.toArray⟩ 0) 0 (fun w' O' hst hh=>hh)
 have hrun2:(do let v←Instr.range t (.string ⟨s.toArray⟩);pure (Next.value v):Sem Next).run P w=.ok (.value (.pointer (some ⟨w.heap.size,0,none⟩))) (w.alloc (.stringIter ⟨s.toArray⟩ 0)):=by
  simp[Instr.range,run_underlying u1,newObj,Sem.run]
 rw[hrun2,Oper.upon_value]
 exact hK' _ _ (k Z w0 O0 M0 _ _ _ (hs.trans q2) (ha.trans q3 hF) ((hr.later q1 q2 q3).put (nblt.1 hd) (.ptr (c:=0) (by rw[←hr.heap.len];simp))))
theorem Klo{x:Operand}{iid:Nat}(s:List UInt8)(i:Nat)(hp1:List Ob)(hx:fr.ev x=some (.ptr iid 0))(ho:hp[iid]?=some (.siter s i))(hend:hp.set iid .dead=hp1)(hd:Nat.blt d N=true)(hF:F≤hp.length)(hasc:asc s=true)
  (k0:s[i]?=none→EO P F N ops rest Q ((d,.tup [.d (.v (.bool false))]) :: fr) hp1)
  (k1:∀ x:UInt8,s[i]?=some x→EO P F N ops rest Q ((d,.tup [.d (.v (.bool true)),.d (.v (.int .i64 (i:Int))),.d (.v (.int .i32 (x.toNat:Int)))]) :: fr) (hp.set iid (.siter s (i+1)))) :
  EO P F N ops (⟨some d,.next x true,ty,pos,after,none⟩ :: rest) Q fr hp:=by
 intro Z w0 O0 M0 w M a hs ha hr
 refine wpList_plain rfl fun K' hK'=>?_
 have hvx:=hr.ev hx
 unfold Oper.wp
 simp only[execOp]
 generalize a.eval x=vx at hvx
 cases hvx with
 | ptr hM=>
  rename_i b c
  have hit:w.heap[b]?=some (.stringIter ⟨s.toArray⟩ i):=hr.heap.obj iid _ _ ho hM
  have hsz:(⟨s.toArray⟩:ByteArray).size=s.length:=by
   show s.toArray.size=s.length
   simp
  have hag:Agr hp.length M M:=⟨Nat.le_of_eq hr.heap.len.symm,fun _ _=>rfl⟩
  cases hi:s[i]? with
  | none=>
   have hlt:¬ i<s.length:=by simpa using hi
   have hrun2:(do let v←Instr.next (.pointer (some ⟨b,0,none⟩)) true ty;pure (Next.value v):Sem Next).run P w=.ok (.value (.tuple #[.bool false])) w:=by
    simp[Instr.next,getObj,Sem.run,hit,hsz,hlt]
   rw[hrun2,Oper.upon_value]
   obtain⟨r3,r4⟩:=Kim hr.heap iid
   rw[hend] at r3 r4
   exact hK' _ _ (k0 hi Z w0 O0 M0 _ _ _ (hs.trans r4) ha ((hr.later r3 r4 hag).put (nblt.1 hd) (.tup rfl fun j g v hg hv=>by
    match j with
    | 0=>cases hg;cases hv;exact .d (.v _ rfl)
    | j+1=>cases hg)))
  | some y=>
   have hlt:i<s.length:=(gEs.1 hi).1
   have hy:y.toNat<128:=by
    have:=lAe.1 hasc y (mOg hi)
    exact of_decide_eq_true this
   have hdec:=Kll s i y hi hy
   obtain⟨r1,r2⟩:=Khv (o':=.siter s (i+1)) (ob':=.stringIter ⟨s.toArray⟩ (i+1)) hr.heap ho rfl hM (fun w' hst hh=>hh) rfl
   have hrun2:(do let v←Instr.next (.pointer (some ⟨b,0,none⟩)) true ty;pure (Next.value v):Sem Next).run P w=.ok (.value (.tuple #[.bool true,.int .i64 (i:Int),.int .i32 (y.toNat:Int)])) { w with heap:=w.heap.setIfInBounds b (.stringIter ⟨s.toArray⟩ (i+1)) }:=by
    have hg:(getObj b).run P w=.ok (.stringIter ⟨s.toArray⟩ i) w:=by simp[getObj,Sem.run,hit]
    have hsO:∀ o,(setObj b o).run P w=.ok () { w with heap:=w.heap.setIfInBounds b o }:=fun o=>by simp[setObj,Sem.run,hit]
    simp[Instr.next,hg,hsO,hsz,hlt,hdec,goInt]
   rw[hrun2,Oper.upon_value]
   exact hK' _ _ (k1 y hi Z w0 O0 M0 _ _ _ (hs.trans r2) ha ((hr.later r1 r2 hag).put (nblt.1 hd) (.tup rfl fun j g v hg hv=>by
    match j with
    | 0=>cases hg;cases hv;exact .d (.v _ rfl)
    | 1=>cases hg;cases hv;exact .d (.v _ rfl)
    | 2=>cases hg;cases hv;exact .d (.v _ rfl)
    | j+3=>cases hg)))
theorem Klp{σ ρ:Type}{c:Code}{f:Nat→UInt8→σ→Option (LS σ ρ)}{s0:σ}{r:LS σ ρ}(l:List UInt8)(h:rangeM f 0 l s0=some r)(st:Nat→σ→Fr)(ob:Nat→σ→List Ob)(hm:MidP F (st 0 s0) (ob 0 s0) fr hp)
  (round:∀ (i:Nat) (s:σ),(l[i]?=none→r=.go s)→(∀ x,l[i]?=some x→∃ r',f i x s=some r'∧∀ v,r'=.out v→r=.out v)→
   St.holds P F N Q (.code c (.mid (fun fr' hp'=>∃ (x:UInt8) (s':σ),l[i]?=some x∧f i x s=some (.go s')∧MidP F (st (i+1) s') (ob (i+1) s') fr' hp') :: ks)) (st i s) (ob i s)) :
  St.holds P F N Q (.code (.loop c) ks) fr hp:=by
 refine Kcm hm ?_
 refine Koq (fun n fr hp=>∃ i s,n=l.length - i∧i≤l.length∧rangeM f i (l.drop i) s=some r∧fr=st i s∧hp=ob i s) _ ⟨0,s0,rfl,Nat.zero_le _,h,rfl,rfl⟩ ?_
 rintro n fr hp ⟨i,s,rfl,hi,hI,rfl,rfl⟩
 have hstep:∀ x,l[i]?=some x→∃ r',f i x s=some r'∧(∀ v,r'=.out v→r=.out v)∧(∀ s',r'=.go s'→rangeM f (i+1) (l.drop (i+1)) s'=some r)∧i<l.length:=fun x hx=>by
  obtain⟨hlt,rfl⟩:=gEs.1 hx
  rw[List.drop_eq_getElem_cons hlt] at hI
  simp only[rangeM] at hI
  cases hs:f i l[i] s with
  | none=>rw[hs] at hI;cases hI
  | some r'=>
   rw[hs] at hI
   refine⟨r',rfl,fun v hv=>?_,fun s' hs'=>?_,hlt⟩
   ·subst hv
    exact(oSi hI).symm
   ·subst hs'
    exact hI
 refine Koh (round i s (fun hd=>?_) fun x hx=>let ⟨r',h1,h2,_⟩:=hstep x hx;⟨r',h1,h2⟩) fun e fr' hp' h'=>?_
 ·have hge:l.length≤i:=by simpa using hd
  rw[List.drop_of_length_le hge] at hI
  exact(oSi hI).symm
 ·cases e with
  | normal=>
   obtain⟨x,s',hx,hs,hm'⟩:=h'
   obtain⟨r',h1,_,h2,h3⟩:=hstep x hx
   rw[hs] at h1
   cases h1
   obtain⟨ex,e1,e2,e3⟩:=hm'.ex
   exact⟨_,st (i+1) s',ob (i+1) s',ex,by omega,⟨i+1,s',rfl,by omega,h2 s' rfl,rfl,rfl⟩,e1,e2,e3⟩
  | _=>exact h'
end
end Go.Gk
namespace Go.Gk
structure Spec where
 k:Nat
 fr:Fr
 g:G
 ch:Option (Nat×Ob×Ob)
abbrev LogE:=(List (Option G)×Option Ob)×(List (Option G)×Option Ob)
def SpecOk(P:Program)(N:Nat)(ops:Array Oper)(sp:Spec):Prop:=∃ (o:Oper) (d:Tmp),ops[sp.k]?=some o∧o.dst=some d∧d<N∧o.guard=none∧(∀ t g,sp.fr.get t=some g→t∈o.looksAt ops)∧
 match sp.ch with
 | none=>∀ hp,QtE P N o sp.fr hp sp.g hp
 | some (id,x,y)=>∀ hp,hp.all Ob.sole=true→hp[id]?=some x→QtE P N o sp.fr hp sp.g (hp.set id y)
def SpecsOk(P:Program)(N:Nat)(ops:Array Oper):List Spec→Prop
 | []=>True
 | s :: r=>SpecOk P N ops s∧SpecsOk P N ops r
theorem Klq{P:Program}{N:Nat}{ops:Array Oper}:∀ {sps:List Spec},SpecsOk P N ops sps→∀ sp∈sps,SpecOk P N ops sp
 | [],_,sp,h=>by cases h
 | s :: r,⟨h1,h2⟩,sp,h=>by
  rcases List.mem_cons.1 h with rfl | h
  ·exact h1
  exact Klq h2 sp h
def Spec.log(sp:Spec)(fr:Fr)(hp:List Ob):LogE:=match sp.ch with
 | none=>((sp.fr.map fun e=>fr.get e.1,none),(sp.fr.map fun e=>some e.2,none))
 | some (id,x,_)=>((sp.fr.map fun e=>fr.get e.1,hp[id]?),(sp.fr.map fun e=>some e.2,some x))
def findS(sps:List Spec)(k:Nat):Option Spec:=match sps with
 | []=>none
 | s :: r=>bif Nat.beq s.k k then some s else findS r k
def lstC(Γ:TypeId→Option TI)(N:Nat)(hpL:List Ob)(ll:List Nat)(bx:List (Nat×List Nat))(sps:List Spec)(ops:Array Oper)(k:Nat)(fr:Fr)(hp:List Ob)(lg:List LogE)(o:Oper):Option (Fr×List LogE):=match findS sps k with
 | some sp=>match sp.ch,o.dst with
  | none,some d=>some ((d,sp.g) :: fr,lg++[sp.log fr hp])
  | _,_=>none
 | none=>(xstep Γ N hpL ll bx ops k fr o).map fun fr'=>(fr',lg)
def hstC(Γ:TypeId→Option TI)(N:Nat)(hpL:List Ob)(sps:List Spec)(ops:Array Oper)(k:Nat)(fr:Fr)(hp:List Ob)(lg:List LogE)(o:Oper):Option (Fr×List Ob×List LogE):=match findS sps k with
 | some sp=>match sp.ch,o.dst with
  | some (id,_,y),some d=>bif hp.all Ob.sole&&deadB hpL id then some ((d,sp.g) :: fr,hp.set id y,lg++[sp.log fr hp]) else none
  | _,_=>none
 | none=>(hst Γ N hpL ops fr hp o).map fun s=>(s.1,s.2,lg)
def anyC(Γ:TypeId→Option TI)(N:Nat)(hpL:List Ob)(ll hl:List Nat)(bx:List (Nat×List Nat))(sps:List Spec)(ops:Array Oper):Nat→Array Bool→Fr→List Ob→List LogE→Option (List (Fr×List Ob×List LogE))
 | 0,listed,fr,hp,lg=>match Region.ready .any ops listed with
  | []=>some [(fr,hp,lg)]
  | _ :: _=>none
 | fuel+1,listed,fr,hp,lg=>match Region.ready .any ops listed with
  | []=>some [(fr,hp,lg)]
  | i0 :: r=>match (i0 :: r).find? fun i=>!(inL hl i) with
   | some i=>match ops[i]? with
    | none=>none
    | some o=>bif Region.free .any ops listed i then match lstC Γ N hpL ll bx sps ops i fr hp lg o with
     | some s=>anyC Γ N hpL ll hl bx sps ops fuel (listed.setIfInBounds i true) s.1 hp s.2
     | none=>none
     else none
   | none=>ocat (fun i=>match ops[i]? with
     | none=>none
     | some o=>match hstC Γ N hpL sps ops i fr hp lg o with
      | some s=>anyC Γ N hpL ll hl bx sps ops fuel (listed.setIfInBounds i true) s.1 s.2.1 s.2.2
      | none=>none) (i0 :: r)
section
variable{P:Program}{Γ:TypeId→Option TI}{F N:Nat}{Q:GPost}{fr fr':Fr}{hp hp' hpL:List Ob}{ks:List Kt}{ll hl:List Nat}{bx:List (Nat×List Nat)}{sps:List Spec}
variable{ops:Array Oper}
theorem Klr{k:Nat}{sp:Spec}:∀ {sps:List Spec},findS sps k=some sp→sp∈sps∧sp.k=k
 | [],h=>by cases h
 | s :: r,h=>by
  simp only[findS] at h
  cases hb:Nat.beq s.k k with
  | true=>rw[hb] at h;cases h;exact⟨mCs,nEq hb⟩
  | false=>rw[hb] at h;exact⟨mCo _ (Klr h).1,(Klr h).2⟩
theorem Kls{α:Type}{f:Nat→Option (List α)}{i:Nat}{r:List Nat}{l:List α}(h:ocat f (i :: r)=some l)(hf:∀ a,f i=some a→a≠[]):l≠[]:=by
 obtain⟨a,h1,h2⟩:=Kjr h i mCs
 cases a with
 | nil=>exact absurd rfl (hf _ h1)
 | cons x _=>intro e;have:=h2 x mCs;rw[e] at this;cases this
theorem ocat_mem'{α:Type}{f:Nat→Option (List α)}:∀ {r:List Nat} {l:List α},ocat f r=some l→∀ x∈l,∃ i∈r,∃ a,f i=some a∧x∈a
 | [],l,h,x,hx=>by cases h;cases hx
 | j :: r,l,h,x,hx=>by
  unfold ocat at h
  cases hf:f j with
  | none=>rw[hf] at h;cases h
  | some a=>
   rw[hf] at h
   cases hr:ocat f r with
   | none=>rw[hr] at h;cases h
   | some b=>
    rw[hr] at h
    cases h
    rcases List.mem_append.1 hx with hx | hx
    ·exact⟨j,mCs,a,hf,hx⟩
    obtain⟨i,h1,c,h2,h3⟩:=ocat_mem' hr x hx
    exact⟨i,mCo _ h1,c,h2,h3⟩
theorem Klt{k:Nat}{lg:List LogE}{o:Oper}{s:Fr×List LogE}(h:lstC Γ N hpL ll bx sps ops k fr hp lg o=some s):∀ e∈lg,e∈s.2:=by
 unfold lstC at h
 split at h
 ·split at h
  ·cases h;exact fun e he=>List.mem_append_left _ he
  cases h
 obtain⟨fr',_,rfl⟩:=oMs.1 h
 exact fun e he=>he
theorem Klu{k:Nat}{lg:List LogE}{o:Oper}{s:Fr×List Ob×List LogE}(h:hstC Γ N hpL sps ops k fr hp lg o=some s):∀ e∈lg,e∈s.2.2:=by
 unfold hstC at h
 split at h
 ·split at h
  ·rename_i id x y d _ _
   cases hc:(hp.all Ob.sole&&deadB hpL id) with
   | false=>rw[hc] at h;cases h
   | true=>rw[hc] at h;cases h;exact fun e he=>List.mem_append_left _ he
  cases h
 obtain⟨q,_,rfl⟩:=oMs.1 h
 exact fun e he=>he
theorem Klv:∀ (fuel:Nat) (listed:Array Bool) (fr:Fr) (hp:List Ob) (lg:List LogE) (leaves:List (Fr×List Ob×List LogE)),anyC Γ N hpL ll hl bx sps ops fuel listed fr hp lg=some leaves→leaves≠[]∧∀ s∈leaves,∀ e∈lg,e∈s.2.2
 | 0,listed,fr,hp,lg,leaves,h=>by
  unfold anyC at h
  split at h
  ·cases h
   exact⟨by simp,fun s hs=>by obtain rfl:=List.mem_singleton.1 hs;exact fun e he=>he⟩
  cases h
 | fuel+1,listed,fr,hp,lg,leaves,h=>by
  unfold anyC at h
  split at h
  ·cases h
   exact⟨by simp,fun s hs=>by obtain rfl:=List.mem_singleton.1 hs;exact fun e he=>he⟩
  rename_i i0 r hr
  split at h
  ·split at h
   ·cases h
   rename_i i o ho
   cases hf:Region.free .any ops listed _ with
   | false=>rw[hf] at h;cases h
   | true=>
    rw[hf] at h
    simp only[cond_true] at h
    split at h
    ·rename_i s hs
     obtain⟨h1,h2⟩:=Klv fuel _ _ _ _ _ h
     exact⟨h1,fun q hq e he=>h2 q hq e (Klt hs e he)⟩
    cases h
  have key:∀ i a,(match ops[i]? with
    | none=>none
    | some o=>match hstC Γ N hpL sps ops i fr hp lg o with
     | some s=>anyC Γ N hpL ll hl bx sps ops fuel (listed.setIfInBounds i true) s.1 s.2.1 s.2.2
     | none=>none)=some a→a≠[]∧∀ s∈a,∀ e∈lg,e∈s.2.2:=fun i a ha=>by
   split at ha
   ·cases ha
   ·split at ha
    ·rename_i s hs
     obtain⟨h1,h2⟩:=Klv fuel _ _ _ _ _ ha
     exact⟨h1,fun q hq e he=>h2 q hq e (Klu hs e he)⟩
    ·cases ha
  refine⟨Kls h fun a ha=>(key i0 a ha).1,fun s hs=>?_⟩
  obtain⟨i,_,a,ha,hsa⟩:=ocat_mem' h s hs
  exact(key i a ha).2 s hsa
def LogOk(lg:List LogE):Prop:=∀ e∈lg,e.1=e.2
theorem Klw{sp:Spec}{fr:Fr}{hp:List Ob}(h:(sp.log fr hp).1=(sp.log fr hp).2):(∀ t g,sp.fr.get t=some g→fr.get t=some g)∧∀ id x y,sp.ch=some (id,x,y)→hp[id]?=some x:=by
 unfold Spec.log at h
 split at h
 ·rename_i hc
  exact⟨fun t g hg=>Kkb (f:=fun t=>fr.get t) (Prod.mk.inj h).1 hg,fun id x y e=>by rw[hc] at e;cases e⟩
 rename_i id x y hc
 refine⟨fun t g hg=>Kkb (f:=fun t=>fr.get t) (Prod.mk.inj h).1 hg,fun id' x' y' e=>?_⟩
 rw[hc] at e
 cases e
 exact(Prod.mk.inj h).2
theorem Klx(hΓ:TOK P Γ)(hS:∀ sp∈sps,SpecOk P N ops sp){k:Nat}{o:Oper}{lg:List LogE}{s:Fr×List LogE}(ho:ops[k]?=some o)(h:lstC Γ N hpL ll bx sps ops k fr hp lg o=some s)(hlg:LogOk s.2):∃ x g,YE P N hpL (inL ll) (inL hl) (inL []) ops k o fr.get hp x g hp∧s.1.get=FF.put fr.get x g:=by
 unfold lstC at h
 split at h
 ·rename_i sp hsp
  obtain⟨hm,rfl⟩:=Klr hsp
  split at h
  ·rename_i d hc hd
   cases h
   obtain⟨o',d',h1,h2,h3,h4,h5,h6⟩:=hS sp hm
   rw[ho] at h1
   cases h1
   rw[hd] at h2
   cases h2
   rw[hc] at h6
   obtain⟨e1,_⟩:=Klw (hlg _ (List.mem_append_right _ mCs))
   refine⟨some d,sp.g,.inl ⟨⟨fun q hq=>by rw[hd] at hq;cases hq;exact h3,.inr ⟨.inl h4,sp.fr,fun t g' ht=>⟨h5 t g' ht,e1 t g' ht⟩,fun hp _=>h6 hp⟩⟩,hd.symm,rfl,Kjt⟩,?_⟩
   rw[Fr.get_cons]
   rfl
  cases h
 obtain⟨fr',hx,rfl⟩:=oMs.1 h
 exact Kju hΓ hx
theorem Kly(hΓ:TOK P Γ)(hS:∀ sp∈sps,SpecOk P N ops sp){k:Nat}{o:Oper}{lg:List LogE}{s:Fr×List Ob×List LogE}(hk:inL hl k=true)(ho:ops[k]?=some o)(h:hstC Γ N hpL sps ops k fr hp lg o=some s)(hlg:LogOk s.2.2) :
  (∃ x g,YE P N hpL (inL ll) (inL hl) (inL []) ops k o fr.get hp x g s.2.1∧s.1.get=FF.put fr.get x g)∧(Stays hpL hp→Stays hpL s.2.1):=by
 unfold hstC at h
 split at h
 ·rename_i sp hsp
  obtain⟨hm,rfl⟩:=Klr hsp
  split at h
  ·rename_i id x y d hc hd
   cases hq:(hp.all Ob.sole&&deadB hpL id) with
   | false=>rw[hq] at h;cases h
   | true=>
    rw[hq] at h
    cases h
    simp only[Bool.and_eq_true] at hq
    obtain⟨o',d',h1,h2,h3,h4,h5,h6⟩:=hS sp hm
    rw[ho] at h1
    cases h1
    rw[hd] at h2
    cases h2
    rw[hc] at h6
    obtain⟨e1,e2⟩:=Klw (hlg _ (List.mem_append_right _ mCs))
    refine⟨⟨some d,sp.g,.inr (.inr (.inl ⟨hk,⟨fun q hq=>by rw[hd] at hq;cases hq;exact h3,.inl h4,by simp,sp.fr,fun t g' ht=>⟨h5 t g' ht,e1 t g' ht⟩,h6 hp hq.1 (e2 id x y hc)⟩,hd.symm,Kjt,fun _=>Kjw hq.2⟩)),?_⟩,Kjw hq.2⟩
    rw[Fr.get_cons]
    rfl
  ·cases h
 ·obtain⟨q,hx,rfl⟩:=oMs.1 h
  exact Kjy hΓ hk hx
theorem Klz(hΓ:TOK P Γ)(hS:∀ sp∈sps,SpecOk P N ops sp){QF:FF→List Ob→Prop}:∀ (fuel:Nat) (listed:Array Bool) (fr:Fr) (hp:List Ob) (lg:List LogE) (leaves:List (Fr×List Ob×List LogE)),listed.size=ops.size→Shut .any ops listed→Stays hpL hp→anyC Γ N hpL ll hl bx sps ops fuel listed fr hp lg=some leaves→(∀ s∈leaves,LogOk s.2.2∧QF s.1.get s.2.1)→
  anyE P N hpL (inL ll) (inL hl) (inL []) .any ops QF fuel listed fr.get hp
 | 0,listed,fr,hp,lg,leaves,hsz,hsh,hst,h,hq=>by
  unfold anyC at h
  split at h
  ·rename_i hr
   cases h
   exact⟨hr,(hq _ mCs).2⟩
  ·cases h
 | fuel+1,listed,fr,hp,lg,leaves,hsz,hsh,hst,h,hq=>by
  unfold anyC at h
  split at h
  ·rename_i hr
   cases h
   exact⟨fun _=>(hq _ mCs).2,fun i hi=>by rw[hr] at hi;cases hi⟩
  ·rename_i i0 r hr
   split at h
   ·rename_i i hfi
    have hmem:i∈Region.ready .any ops listed:=by rw[hr];exact List.mem_of_find?_eq_some hfi
    have hlight:inL hl i=false:=by have:=List.find?_some hfi;simpa using this
    split at h
    ·cases h
    ·rename_i o ho
     cases hf:Region.free .any ops listed i with
     | false=>rw[hf] at h;cases h
     | true=>
      rw[hf] at h
      simp only[cond_true] at h
      split at h
      ·rename_i s hx
       obtain⟨hne,hlg⟩:=Klv _ _ _ _ _ _ h
       have hok:LogOk s.2:=by
        obtain⟨q,hq'⟩:=List.exists_mem_of_ne_nil _ hne
        exact fun e he=>(hq q hq').1 e (hlg q hq' e he)
       obtain⟨x,g,hy,hg⟩:=Klx (P:=P) (hl:=hl) hΓ hS ho hx hok
       have hrec:=Klz hΓ hS fuel (listed.setIfInBounds i true) s.1 hp s.2 leaves (by simpa using hsz) (Ken hsh hmem) hst h hq
       rw[hg] at hrec
       exact Ker Kjz (fun hv=>by rw[hlight] at hv;cases hv) ho fuel listed fr.get hp hp hsz hsh (fun hv=>by rw[hlight] at hv;cases hv) (fun _=>hst) (Region.free_spec ho hf) hmem hy hrec
      ·cases h
   ·rename_i hnone
    refine⟨(fun h0=>by rw[hr] at h0;cases h0),fun i hi=>?_⟩
    rw[hr] at hi
    obtain⟨a,ha,hsub⟩:=Kjr h i hi
    have hheavy:inL hl i=true:=by
     have:=List.find?_eq_none.1 hnone i hi
     simpa using this
    have hmem:i∈Region.ready .any ops listed:=by rw[hr];exact hi
    unfold gOpE
    split at ha
    ·cases ha
    ·rename_i o ho
     split at ha
     ·rename_i s hs
      obtain⟨hne,hlg⟩:=Klv _ _ _ _ _ _ ha
      have hok:LogOk s.2.2:=by
       obtain⟨q,hq'⟩:=List.exists_mem_of_ne_nil _ hne
       exact fun e he=>(hq q (hsub q hq')).1 e (hlg q hq' e he)
      obtain⟨⟨x,g,hy,hg⟩,hss⟩:=Kly (P:=P) (ll:=ll) hΓ hS hheavy ho hs hok
      simp only[ho]
      have hrec:=Klz hΓ hS fuel (listed.setIfInBounds i true) s.1 s.2.1 s.2.2 a (by simpa using hsz) (Ken hsh hmem) (hss hst) ha (fun q hq'=>hq q (hsub q hq'))
      rw[hg] at hrec
      exact⟨x,g,s.2.1,hy,fun _=>hst,hrec⟩
     ·cases ha
theorem Kma(hΓ:TOK P Γ){id:Nat}{l:List Oper}(bx:List (Nat×List Nat))(sps:List Spec)(ps:List (List Nat×List Nat)){fr0:Fr}{hp0:List Ob}(hm:P.follows .mixedOrders=true)(hR:(anyC Γ N hpL ll hl bx sps l.toArray l.length (Array.replicate l.length false) fr hp []).map (fun ls=>leavesN hp.length (fr0.map (·.1)) (ls.map fun s=>(s.1,s.2.1)) ps)=some (List.replicate ps.length (true,fr0.map (fun e=>some e.2),hp0)))(hG:(anyC Γ N hpL ll hl bx sps l.toArray l.length (Array.replicate l.length false) fr hp []).map (fun ls=>ls.map fun s=>s.2.2.map (·.1))=(anyC Γ N hpL ll hl bx sps l.toArray l.length (Array.replicate l.length false) fr hp []).map (fun ls=>ls.map fun s=>s.2.2.map (·.2)))(hS:∀ sp∈sps,SpecOk P N l.toArray sp)(hst:StaysL hpL hp)(hF:F≤hp.length)(hk:Q .normal fr0 hp0):EW P F N (.region id l.toArray true) Q fr hp:=by
 obtain⟨leaves,hR,hL0⟩:=oMs.1 hR
 rw[hR] at hG
 have hlog:∀ s∈leaves,LogOk s.2.2:=fun s hs=>by
  have hG':=oSi hG
  have h1:s.2.2.map (·.1)=s.2.2.map (·.2):=by
   obtain⟨j,hj⟩:=List.getElem?_of_mem hs
   have:=congrArg (fun l=>l[j]?) hG'
   simp only[List.getElem?_map,hj,Option.map_some,Option.some.injEq] at this
   exact this
  intro e he
  obtain⟨j,hj⟩:=List.getElem?_of_mem he
  have:=congrArg (fun l=>l[j]?) h1
  simp only[List.getElem?_map,hj,Option.map_some,Option.some.injEq] at this
  exact this
 have hL:=Kka (n0:=hp.length) (fr0:=fr0) (hp0:=hp0) (ss:=leaves.map fun s=>(s.1,s.2.1)) (ps:=ps) fun x hx=>by
  rw[hL0] at hx
  exact List.eq_of_mem_replicate hx
 intro Z w0 O0 M0 w M a hs ha hr
 have hdr:Stp w (own hp M) w.drew (own hp M):=.mk' (Nat.le_refl _) (fun _ _ _=>rfl) (fun _ _ h=>h) rfl rfl rfl rfl (fun g=>g) fun _ _ _=>rfl
 have hr':RelH Z hp M w.drew:=by
  refine⟨hr.heap.len,fun i o m h1 h2=>?_,hr.heap.apart,hr.heap.old,hr.heap.amb_stp hdr,hr.heap.inj,hr.heap.bags.mono rfl (Nat.le_refl _) (fun _ _ h=>h) (fun _ _ _ _ h=>h)⟩
  have:=hr.heap.obj i o m h1 h2
  exact this.move (k:=M.l.length) (Kob Z hdr) (fun _ _=>rfl) this.bel (fun _ _ _ _=>rfl) (fun _ _ _ _=>⟨rfl,fun _ _ _=>rfl⟩)
 have hany:=Klz (P:=P) (N:=N) (ops:=l.toArray) (hpL:=hpL) (ll:=ll) (hl:=hl) (bx:=bx) (sps:=sps) hΓ hS (QF:=fun F hp=>∃ fr':Fr,fr'.get=F∧(fr',hp)∈leaves.map fun s=>(s.1,s.2.1)) l.length (Array.replicate l.toArray.size false) fr hp [] leaves (by simp) (fun k o h=>by
   rcases Nat.lt_or_ge k l.toArray.size with h' | h'
   ·simp at h' h;simp[h'] at h
   simp at h' h;simp[h'] at h) (Kfi hst) (by simpa using hR) fun s hs=>⟨hlog s hs,s.1,rfl,List.mem_map.2 ⟨s,hs,rfl⟩⟩
 refine wp_region_any hm (Kev (Z:=Z) (F0:=hp.length) (M0:=M) (w0:=w0) (O0:=O0) (N:=N) (hpL:=hpL) (light:=inL ll) (heavy:=inL hl) (brk:=inL []) (QF:=fun F hp=>∃ fr':Fr,fr'.get=F∧(fr',hp)∈leaves.map fun s=>(s.1,s.2.1)) Kjz ?_ _ _ fr.get hp M a w.drew [] (RelF.zB0 ⟨hr',fun t g hg=>let ⟨v,e1,e2⟩:=hr.fr t g hg;⟨v,e1,e2.step (Kob Z hdr) (fun _ _=>rfl)⟩,hr.size,hr.defers⟩) ⟨by simp,fun i j _ hi _=>(by rw[Ket] at hi;cases hi),fun p hp=>by cases hp⟩ (by simp) (fun k o hk=>by rw[Ket] at hk;cases hk) (hs.trans hdr) ⟨Nat.le_of_eq hr.heap.len.symm,fun _ _=>rfl⟩ (Nat.le_refl _) (by simpa using hany))
 rintro F' a' w' hp' M' ⟨fr',rfl,hq⟩ h1 h2 h3 h4
 obtain⟨p,hb,ho,hf⟩:=hL _ hq
 simp only at hb ho hf
 obtain⟨M2,r1,r2,r3,r4,r5,r6⟩:=Kjq (n0:=hp.length) p.1 p.2 hb h1.heap
 rw[ho] at r1 r2
 have hown:ownZ Z hp0 M2=ownZ Z hp' M':=Koa (fun b=>by rw[r2]) r5
 refine⟨fr0,hp0,M2,hk,⟨r1,fun t g hg=>?_,h1.size,h1.defers⟩,by rw[r2];exact h2,?_⟩
 ·have:=Kkb (f:=fun t=>(Fr.get fr' t).map (G.ren (pf p.1))) hf hg
  obtain⟨g0,e1,rfl⟩:=oMs.1 this
  obtain⟨v,e2,e3⟩:=h1.fr t g0 e1
  rw[hown]
  exact⟨v,e2,e3.ren r3⟩
 refine⟨by rw[r4];exact Nat.le_trans hF h3.le,fun i hi=>?_⟩
 have hi':i<hp.length:=by omega
 have e:=r3 i (nLl hi' h3.le)
 rw[r6 i hi'] at e
 rw[e,h3.eq i hi',ha.eq i hi]
theorem Kmb(hΓ:TOK P Γ){id:Nat}{ops:Array Oper}(hpL:List Ob)(ll hl:List Nat)(bx:List (Nat×List Nat))(sps:List Spec)(ps:List (List Nat×List Nat))(fr0:Fr)(hp0:List Ob)(hm:P.follows .mixedOrders=true)(hR:(anyC Γ N hpL ll hl bx sps ops ops.toList.length (Array.replicate ops.toList.length false) fr hp []).map (fun ls=>leavesN hp.length (fr0.map (·.1)) (ls.map fun s=>(s.1,s.2.1)) ps)=some (List.replicate ps.length (true,fr0.map (fun e=>some e.2),hp0)))(hG:(anyC Γ N hpL ll hl bx sps ops ops.toList.length (Array.replicate ops.toList.length false) fr hp []).map (fun ls=>ls.map fun s=>s.2.2.map (·.1))=(anyC Γ N hpL ll hl bx sps ops ops.toList.length (Array.replicate ops.toList.length false) fr hp []).map (fun ls=>ls.map fun s=>s.2.2.map (·.2)))(hS:∀ sp∈sps,SpecOk P N ops sp)(hst:StaysL hpL hp)(hF:F≤hp.length)(k:St.holds P F N Q (.fin .normal ks) fr0 hp0):St.holds P F N Q (.code (.region id ops true) ks) fr hp:=by
 have:=Kma (P:=P) (F:=F) (N:=N) (Q:=stk P F N Q ks) (fr:=fr) (hp:=hp) (hpL:=hpL) (ll:=ll) (hl:=hl) (id:=id) (l:=ops.toList) hΓ bx sps ps (fr0:=fr0) (hp0:=hp0) hm
 simp only[Array.toArray_toList] at this
 exact this hR hG hS hst hF k
theorem Kmc{L:List Nat}:∀ {sf:Fr} {t:Nat} {g:G},(sf.all fun e=>L.any (Nat.beq e.1))=true→sf.get t=some g→t∈L
 | [],t,g,_,h=>by cases h
 | (t0,g0) :: r,t,g,ha,h=>by
  simp only[List.all_cons,Bool.and_eq_true] at ha
  simp only[Fr.get] at h
  cases hb:Nat.beq t0 t with
  | true=>
   obtain rfl:=nEq hb
   obtain⟨x,hx,e⟩:=List.any_eq_true.1 ha.1
   exact nEq e▸hx
  | false=>rw[hb] at h;exact Kmc ha.2 h
theorem Kmd{k:Nat}{sf:Fr}{g:G}{d:Tmp}{op:Op}{ty:TypeId}{pos:String}{after:Array Edge}(ho:ops[k]?=some ⟨some d,op,ty,pos,after,none⟩)(hd:Nat.blt d N=true)(hL:(sf.all fun e=>(Oper.looksAt ops ⟨some d,op,ty,pos,after,none⟩).any (Nat.beq e.1))=true)(h:∀ hp,OpP P N ⟨some d,op,ty,pos,after,none⟩ sf hp g):SpecOk P N ops ⟨k,sf,g,none⟩:=by
 refine⟨_,d,ho,rfl,nblt.1 hd,rfl,fun t g' ht=>?_,fun hp=>Kfo (qt_p (h hp))⟩
 exact Kmc hL ht
theorem Kme{fop:Operand}{args:Array Operand}{ts:Array TypeId}{f:FuncId}{g1 g2 gs:List G}{dst:Option Tmp}{ty:TypeId}{pos:String}{after:Array Edge}{gd':Option (Nat×Bool)}{gc:List G}{x y:Ob}{gr g':G}(id:Nat)(hcl:Callable P f)(hc0:EC P f gc [x] fun g hp'=>g=gr∧hp'=[y])(hf:fr.ev fop=some (.fn (.func f) g1 g2))(ha:args.toList.mapM fr.ev=some gs)
  (hx:hp[id]?=some x) (hs:hp.all Ob.sole=true) (hxr:∀ L,x.ren (rn [id] L)=x) (hyr:∀ L,y.ren (rn [id] L)=y) (hb:x.bel 1=true) (hgb:G.belAll 1 gc=true) (hgs:∀ L,gc.map (G.ren (rn [id] L))=g1++gs++g2) (hg':∀ L,gr.ren (rn [id] L)=g') :
  QtE P N ⟨dst,.call ⟨.value fop,args,ts⟩,ty,pos,after,gd'⟩ fr hp g' (hp.set id y):=
 Kga [id] g' (hp.set id y) hcl hc0 hf ha rfl rfl (by simp[callIn,hx,hxr]) (by simp[hb]) hgb (hgs _) (hg' _) (by simp[callObs,upd,hyr]) (.inr hs)
theorem Kmf{fop:Operand}{args:Array Operand}{ts:Array TypeId}{f:FuncId}{g1 g2 gs:List G}{ty:TypeId}{pos:String}{after:Array Edge}{gc:List G}{x y:Ob}{gr g':G}{k:Nat}{sf:Fr}{d:Tmp}(id:Nat)(ho:ops[k]?=some ⟨some d,.call ⟨.value fop,args,ts⟩,ty,pos,after,none⟩)(hd:Nat.blt d N=true)(hL:(sf.all fun e=>(Oper.looksAt ops ⟨some d,.call ⟨.value fop,args,ts⟩,ty,pos,after,none⟩).any (Nat.beq e.1))=true)
  (hcl:Callable P f) (hc0:EC P f gc [x] fun g hp'=>g=gr∧hp'=[y]) (hf:sf.ev fop=some (.fn (.func f) g1 g2)) (ha:args.toList.mapM sf.ev=some gs) (hxr:∀ L,x.ren (rn [id] L)=x) (hyr:∀ L,y.ren (rn [id] L)=y) (hb:x.bel 1=true) (hgb:G.belAll 1 gc=true) (hgs:∀ L,gc.map (G.ren (rn [id] L))=g1++gs++g2) (hg':∀ L,gr.ren (rn [id] L)=g') :
  SpecOk P N ops ⟨k,sf,g',some (id,x,y)⟩:=
 ⟨_,d,ho,rfl,nblt.1 hd,rfl,fun t g' ht=>Kmc hL ht,fun hp hs hx=>Kme id hcl hc0 hf ha hx hs hxr hyr hb hgb hgs hg'⟩
theorem Kmg{α:Type}{enc:α→List D}(hΓ:TOK P Γ){t e:TypeId}{len:Nat}{i1 i2:TI}{parts:Array (Nat×Operand)}{pg:List (Nat×G)}{gs:List G}(l:List α){k:Nat}{sf:Fr}{d:Tmp}{ty:TypeId}{pos:String}{after:Array Edge}(ho:ops[k]?=some ⟨some d,.buildSlice t len parts,ty,pos,after,none⟩)(hd:Nat.blt d N=true)(hL:(sf.all fun e=>(Oper.looksAt ops ⟨some d,.buildSlice t len parts,ty,pos,after,none⟩).any (Nat.beq e.1))=true)
  (h1:Γ t=some i1) (h1':i1.desc=.slice e) (h2:Γ e=some i2) (hz:(i2.zero.cells.toList.all (·.oneCell'))=true) (hz':Nat.blt 0 i2.zero.cells.size=true) (hlen:Nat.ble (len * i2.size) 16777216=true) (hlen':Nat.ble len 16777216=true) (hp':evParts sf parts.toList=some pg) (hf:fillG (fun i=>some (i * i2.size,i2.size)) (zerosG i2 len) pg=some gs) (hds:toDs gs=some (l.flatMap enc)) (hlq:len=l.length) :
  SpecOk P N ops ⟨k,sf,.d (Sl enc l),none⟩:=by
 subst hlq
 exact⟨_,d,ho,rfl,nblt.1 hd,rfl,fun t g' ht=>Kmc hL ht,fun hp=>Kfo (Kbb hΓ h1 h1' h2 hz hz' hlen hlen' hp' hf hds)⟩
end
end Go.Gk
