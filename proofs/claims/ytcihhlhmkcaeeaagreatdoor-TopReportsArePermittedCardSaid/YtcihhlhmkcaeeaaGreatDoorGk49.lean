import Derived.Test.YtcihhlhmkcaeeaaGreatDoorGk39
import Derived.WideKeyRuns
set_option linter.all false
namespace Go.Gk
open Go.Instr
variable{P:Program}{Γ:TypeId→Option TI}{F N:Nat}{Q:GPost}{fr fr':Fr}{hp hp':List Ob}{ks:List Kt}
variable{α:Type}{enc:α→List D}{ops:Array Oper}{rest:List Oper}{g:G}
variable{d:Tmp}{op:Op}{ty:TypeId}{pos:String}{after:Array Edge}{gd':Option (Nat×Bool)}
end Go.Gk
namespace Go.Gk
abbrev Tl(α:Type):Type:=Nat×List α
def Slt{α:Type}(te:TypeId)(sz:Nat)(enc:α→List D)(s:Tl α):D:=.rt te sz s.1 s.2.length (s.2.flatMap enc)
def eT{α:Type}(te:TypeId)(sz:Nat)(enc:α→List D)(s:Tl α):List D:=[Slt te sz enc s]
theorem RelH.bag_none{Z:Env}{hp:List Ob}{M:Mp}{w:World}(hr:RelH Z hp M w){bg:Nat}{al:List Bool}{ar:List Ar}{lt:List (Nat×Nat)}(hbag:hp[bg]?=some (.bag al ar lt)):M.l[bg]?=some none∧ObR w (ownZ Z hp M) M (.bag al ar lt) none:=by
 have hbl:bg<hp.length:=(gEs.1 hbag).1
 have e:M.l[bg]?=some (M.l[bg]'(by rw[hr.len];exact hbl)):=gGe _
 have:=hr.obj bg _ _ hbag e
 revert this
 rw[e]
 cases M.l[bg]'(by rw[hr.len];exact hbl) with
 | none=>exact fun h=>⟨rfl,h⟩
 | some _=>exact fun h=>h.elim
theorem Kkn{w:World}{O:Ow}{te:TypeId}{sz t n:Nat}{xs:List D}{v:Value}(h:VD w O (.rt te sz t n xs) v):O.Tag te sz n v t:=by
 cases h with
 | rt _ _ _ _ _ _ _ h=>exact h
theorem Kko{Z:Env}{hp:List Ob}{M:Mp}{w:World}(hr:RelH Z hp M w){bg:Nat}{al al0:List Bool}{ar:List Ar}{lt:List (Nat×Nat)}(hbag:hp[bg]?=some (.bag al ar lt)){te:TypeId}{sz tg n:Nat}{xs:List D}{v:Value}(hvx:VD w (ownZ Z hp M) (.rt te sz tg n xs) v)
  (htg:(tg=1∧al0=al)∨∃ q,tg=q+2∧al[q]?=some true∧al0=al.set q false):(∀ a∈ar,a∈ar)∧ar.Pairwise (fun a a'=>a.t≠a'.t)∧∀ a∈ar,a.isRow=true→al0[a.t]?=some true:=by
 obtain⟨_,_,_,_,q4,q5,_⟩:=hr.bag_none hbag
 refine⟨fun _ h=>h,q5,fun a ha hrow=>?_⟩
 obtain⟨hR,_,hal⟩:=q4 a ha
 rcases htg with⟨_,rfl⟩ | ⟨q,rfl,_,rfl⟩
 ·exact hal hrow
 ·rw[gSn]
  ·exact hal hrow
  ·intro e
   subst e
   cases a with
   | map _ _ _=>cases hrow
   | box _ _ _=>cases hrow
   | row t ty sz n ds=>
    obtain⟨x,hx,⟨hv,_⟩,_⟩:=hR
    have hx':(ownZ Z hp M).h[t]?=some (some x):=hx
    rcases Kkn hvx with⟨hn,_⟩ | ⟨x',hn,_,_,_,hv',_⟩
    ·have hn':(ownZ Z hp M).h[t]?=some none:=hn
     rw[hx'] at hn';cases hn'
    ·have hn':(ownZ Z hp M).h[t]?=some (some x'):=hn
     rw[hx'] at hn';cases hn'
     rw[hv] at hv';cases hv'
theorem Kkp{Z:Env}{hp hp1:List Ob}{M:Mp}{w w':World}{bg:Nat}{al al0:List Bool}{ar ar1:List Ar}{lt:List (Nat×Nat)}(bn:Bool)(T:Option Tg)(hr:RelH Z hp M w)(hbag:hp[bg]?=some (.bag al ar lt))(hl:hp1.length=hp.length)
  (h1:∀ (i:Nat) (o:Ob),hp1[i]?=some o→o=.dead∨(i≠bg∧hp[i]?=some o)∨(i=bg∧o=.bag (al0++[bn]) ar1 lt)) (hb1:hp1[bg]?=some (.bag (al0++[bn]) ar1 lt))
  (g1:w.heap.size≤w'.heap.size) (g2:w'.os=w.os) (g3:w'.tape=w.tape) (g4:w'.output=w.output) (hkeep:∀ k,k<w.heap.size→(∀ y:Tg,T=some y→k≠y.b)→w'.heap[k]?=w.heap[k]?)
  (hlen:al0.length=al.length) (hal:∀ t:Nat,al0[t]?=some true→al[t]?=some true)
  (hT:∀ y:Tg,T=some y→(bn=true→0<y.sz∧∃ cur:Array Value,w'.heap[y.b]?=some (.cells cur y.t (0,0))∧cur.size=y.c * y.sz∧y.n≤y.c∧y.c≤maxLen)∧y.b<w'.heap.size∧(y.b<w.heap.size→own hp M y.b)∧¬ obOwn hp1 M y.b∧
   (∀ x:Tg,some x∈M.h→x.b=y.b→0<x.sz∧0<y.sz∧x.n * x.sz≤y.n * y.sz∧∀ k,k<x.n * x.sz→w'.cell? ⟨x.b,k,none⟩=w.cell? ⟨x.b,k,none⟩)∧(∀ (t:Nat) (x:Tg),al0[t]?=some true→M.h[t]?=some (some x)→x.b≠y.b))
  (ar0:List Ar) (hsub:(∀ a∈ar0,a∈ar)∧ar0.Pairwise (fun a a'=>a.t≠a'.t)∧∀ a∈ar0,a.isRow=true→al0[a.t]?=some true)
  (har:ar1=ar0∨∃ a,ar1=a :: ar0∧a.t=al.length∧(Stp w (own hp M) w' (own hp1 ⟨M.l,M.h++[T]⟩)→ArR w' (ownZ Z hp1 ⟨M.l,M.h++[T]⟩) ⟨M.l,M.h++[T]⟩ a)∧(a.isRow=true→bn=true)) :
  RelH Z hp1 ⟨M.l,M.h++[T]⟩ w'∧Stp w (own hp M) w' (own hp1 ⟨M.l,M.h++[T]⟩)∧Agr hp.length M ⟨M.l,M.h++[T]⟩:=by
 have hbl:bg<hp.length:=(gEs.1 hbag).1
 have hbm:M.l[bg]?=some none:=by
  have e:M.l[bg]?=some (M.l[bg]'(by rw[hr.len];exact hbl)):=gGe _
  have:=hr.obj bg _ _ hbag e
  revert this
  rw[e]
  cases M.l[bg]'(by rw[hr.len];exact hbl) with
  | none=>exact fun _=>rfl
  | some _=>exact fun h=>h.elim
 have q0:=hr.obj bg _ _ hbag hbm
 obtain⟨q1,q2,q3,q4,q5,q6⟩:=q0
 have hg:hasBag hp:=⟨bg,al,ar,lt,hbag⟩
 have hg1:hasBag hp1:=⟨bg,_,_,_,hb1⟩
 have hmem:∀ x:Tg,some x∈M.h++[T]→some x∈M.h∨T=some x:=fun x hx=>(List.mem_append.1 hx).imp id fun h=>(List.mem_singleton.1 h).symm
 have hget:∀ (t:Nat) (x:Option Tg),M.h[t]?=some x→(M.h++[T])[t]?=some x:=fun t x h=>by rw[gAl (gEs.1 h).1];exact h
 have hsplit:∀ (t:Nat) (x:Tg),(M.h++[T])[t]?=some (some x)→(t<al.length∧M.h[t]?=some (some x))∨(t=al.length∧T=some x):=fun t x hx=>by
  by_cases ht:t<al.length
  ·rw[gAl (by omega)] at hx;exact .inl ⟨ht,hx⟩
  ·rw[gAr (by omega)] at hx
   have hk:t - M.h.length=0:=by
    have:=(gEs.1 hx).1
    simp at this;exact this
   rw[hk] at hx
   simp at hx
   exact .inr ⟨by omega,hx⟩
 have hob:∀ b,obOwn hp1 M b→obOwn hp M b:=by
  rintro b ⟨i,o,c,e1,e2,e3⟩
  rcases h1 i o e1 with rfl | ⟨_,e⟩ | ⟨rfl,rfl⟩
  ·cases e2
  ·exact⟨i,o,c,e,e2,e3⟩
  ·rw[hbm] at e3;cases e3
 have hown:∀ b,b<w.heap.size→own hp1 ⟨M.l,M.h++[T]⟩ b→own hp M b:=by
  rintro b hb (h | ⟨_,x,hx,rfl⟩)
  ·exact .inl (hob b h)
  ·rcases hmem x hx with hx | hx
   ·exact .inr ⟨hg,x,hx,rfl⟩
   ·exact(hT x hx).2.2.1 hb
 have hfz:∀ x:Tg,some x∈M.h→∀ k,k<x.n * x.sz→w'.cell? ⟨x.b,k,none⟩=w.cell? ⟨x.b,k,none⟩:=fun x hx k hk=>by
  by_cases hxy:∃ y,T=some y∧x.b=y.b
  ·obtain⟨y,hy,e⟩:=hxy
   exact((hT y hy).2.2.2.2.1 x hx e).2.2.2 k hk
  ·exact World.cell?_of_block (hkeep _ (hr.bags.tgs x hx).1 fun y hy e=>hxy ⟨y,hy,e⟩)
 have hst:Stp w (own hp M) w' (own hp1 ⟨M.l,M.h++[T]⟩):=by
  refine⟨g1,fun b hb hn=>hkeep b hb fun y hy e=>?_,hown,g2,g3,g4,⟨[T],rfl,fun x hx hb=>?_⟩,hfz,fun h=>absurd hg h⟩
  ·subst e;exact hn ((hT y hy).2.2.1 hb)
  ·exact(hT x (List.mem_singleton.1 hx).symm).2.2.1 hb
 have harR:∀ a∈ar0,ArR w' (ownZ Z hp1 ⟨M.l,M.h++[T]⟩) ⟨M.l,M.h++[T]⟩ a:=fun a ha0=>by
  have ha:=hsub.1 a ha0
  refine ArR.move (M:=M) (M':=⟨M.l,M.h++[T]⟩) (Koi Z hst) (q4 a ha).1 (fun t x h=>hget t _ h) fun x hx=>?_
  have hm:=mOg hx
  refine hkeep _ (hr.bags.tgs x hm).1 fun y hy e=>?_
  cases hrow:a.isRow with
  | true=>exact(hT y hy).2.2.2.2.2 a.t x (hsub.2.2 a ha0 hrow) hx e
  | false=>
   have hz:x.sz=0:=by
    have:=(q4 a ha).1
    cases a with
    | map t agg es=>obtain⟨x',e1,e2,_⟩:=this;have hx':M.h[t]?=some (some x):=hx;rw[hx'] at e1;cases e1;exact e2
    | box t ty ds=>obtain⟨x',e1,e2,_⟩:=this;have hx':M.h[t]?=some (some x):=hx;rw[hx'] at e1;cases e1;exact e2
    | row _ _ _ _ _=>cases hrow
   have:=((hT y hy).2.2.2.2.1 x hm e).1
   omega
 refine⟨⟨by rw[hl];exact hr.len,fun i o m e1 e2=>?_,fun b hb hz=>?_,fun b hb=>nLl (hr.old b hb) g1,hr.amb_stp hst,fun i j oi oj b c c' hi hj li lj mi mj=>?_,⟨fun x hx=>⟨?_,fun hz h=>?_⟩,fun i j a a' ar ar' lt lt' hi hj=>?_,fun i a ar' lt' hi t x hx h=>?_,fun t t' x x' hx hx' hz hb=>?_⟩⟩,hst,⟨by rw[show(⟨M.l,M.h++[T]⟩:Mp).l.length=M.l.length from rfl,hr.len];exact Nat.le_refl _,fun _ _=>rfl⟩⟩
 ·have e2':M.l[i]?=some m:=e2
  rcases h1 i o e1 with rfl | ⟨hi,e⟩ | ⟨rfl,rfl⟩
  ·cases m<;>trivial
  ·have:=hr.obj i o m e e2'
   refine this.move (k:=M.l.length) (M:=M) (M':=⟨M.l,M.h++[T]⟩) (Koi Z hst) (fun _ _=>rfl) this.bel (fun b c em hl2=>?_) fun a ar' lt' ea=>?_
   ·subst em
    refine hkeep b (hr.block_ob ⟨i,o,c,e,hl2,e2'⟩) fun y hy eb=>(hT y hy).2.2.2.1 ⟨i,o,c,e1,hl2,eb▸e2'⟩
   ·subst ea
    exact absurd (hr.bags.one _ _ _ _ _ _ _ _ e hbag) hi
  ·rw[hbm] at e2'
   cases e2'
   have hnew:∀ (t:Nat) (x:Tg),(al0++[bn])[t]?=some true→(M.h++[T])[t]?=some (some x)→(t<al.length∧al0[t]?=some true∧M.h[t]?=some (some x))∨(t=al.length∧bn=true∧T=some x):=fun t x ha hx=>by
    rcases hsplit t x hx with⟨ht,hx⟩ | ⟨ht,hx⟩
    ·rw[gAl (by omega)] at ha
     exact .inl ⟨ht,ha,hx⟩
    ·rw[gAr (by omega)] at ha
     have:t - al0.length=0:=by omega
     rw[this] at ha
     simp at ha
     exact .inr ⟨ht,ha,hx⟩
   have hlt:∀ t id,(t,id)∈lt→t<al.length:=fun t id hm=>by
    obtain⟨x,c,e,_⟩:=q6 t id hm
    rw[q1];exact(gEs.1 e).1
   have hart:∀ a∈ar,a.t<al.length:=fun a ha=>by
    have:=(q4 a ha).1
    cases a with
    | map t agg es=>obtain⟨x',e1,_⟩:=this;rw[q1];exact(gEs.1 e1).1
    | box t ty ds=>obtain⟨x',e1,_⟩:=this;rw[q1];exact(gEs.1 e1).1
    | row t ty sz n ds=>obtain⟨x',e1,_⟩:=this;rw[q1];exact(gEs.1 e1).1
   have hal1:∀ a∈ar0,a.isRow=true→(al0++[bn])[a.t]?=some true:=fun a ha hrow=>by
    have:=hsub.2.2 a ha hrow
    rw[gAl (gEs.1 this).1];exact this
   refine⟨by simp;omega,fun t x ha hx=>?_,fun t t' x x' ha hx hx' hb=>?_,fun a ha=>?_,?_,fun t id hm=>?_⟩
   ·rcases hnew t x ha hx with⟨_,ha',hx'⟩ | ⟨_,hb,hy⟩
    ·obtain⟨hz,cs,k1,k2⟩:=q2 t x (hal t ha') hx'
     refine⟨hz,cs,?_,k2⟩
     rw[hkeep _ (hr.bags.tgs x (mOg hx')).1 fun y hy=>(hT y hy).2.2.2.2.2 t x ha' hx']
     exact k1
    ·exact(hT x hy).1 hb
   ·have hx2:=hsplit t' x' hx'
    rcases hnew t x ha hx with⟨ht,ha',hx1⟩ | ⟨ht,hbn,hy⟩
    ·rcases hx2 with⟨ht',hx2⟩ | ⟨ht',hy'⟩
     ·obtain⟨k1,k2⟩:=q3 t t' x x' (hal t ha') hx1 hx2 hb
      refine⟨k1,fun ha2=>k2 (hal t' ?_)⟩
      rw[gAl (by omega)] at ha2
      exact ha2
     ·exact absurd hb.symm ((hT x' hy').2.2.2.2.2 t x ha' hx1)
    ·rcases hx2 with⟨ht',hx2⟩ | ⟨ht',hy'⟩
     ·refine⟨((hT x hy).2.2.2.2.1 x' (mOg hx2) hb).2.2.1,fun ha2=>?_⟩
      rw[gAl (by omega)] at ha2
      exact absurd hb ((hT x hy).2.2.2.2.2 t' x' ha2 hx2)
     ·rw[hy] at hy'
      cases hy'
      exact⟨Nat.le_refl _,fun _=>by omega⟩
   ·rcases har with rfl | ⟨a0,rfl,e,hR,hbn⟩
    ·exact⟨harR a ha,(q4 a (hsub.1 a ha)).2.1,hal1 a ha⟩
    ·rcases List.mem_cons.1 ha with rfl | ha
     ·exact⟨hR hst,fun id hm=>by have:=hlt _ _ hm;omega,fun hrow=>by rw[e,←hlen,gAr (Nat.le_refl _),hbn hrow];simp⟩
     ·exact⟨harR a ha,(q4 a (hsub.1 a ha)).2.1,hal1 a ha⟩
   ·rcases har with rfl | ⟨a0,rfl,e,hR,_⟩
    ·exact hsub.2.1
    ·exact List.pairwise_cons.2 ⟨fun a ha=>by have:=hart a (hsub.1 a ha);omega,hsub.2.1⟩
   ·obtain⟨x,c,e1,e2,e3⟩:=q6 t id hm
    exact⟨x,c,hget t _ e1,e2,e3⟩
 ·by_cases hb':b<w.heap.size
  ·exact hr.apart b (hown b hb' hb) hz
  ·exact absurd (hr.old b hz) hb'
 ·have key:∀ (i:Nat) (o:Ob) (c:Nat),hp1[i]?=some o→o.live=true→M.l[i]?=some (some (b,c))→hp[i]?=some o:=fun i o c e1 e2 e3=>by
   rcases h1 i o e1 with rfl | ⟨_,e⟩ | ⟨rfl,rfl⟩
   ·cases e2
   ·exact e
   ·rw[hbm] at e3;cases e3
  exact hr.inj i j oi oj b c c' (key i oi c hi li mi) (key j oj c' hj lj mj) li lj mi mj
 ·rcases hmem x hx with hx | hx
  ·exact nLl (hr.bags.tgs x hx).1 g1
  ·exact(hT x hx).2.1
 ·rcases hmem x hx with hx | hx
  ·exact(hr.bags.tgs x hx).2 hz (hob _ h)
  ·exact(hT x hx).2.2.2.1 h
 ·have key:∀ (i:Nat) (a:List Bool) (ar:List Ar) (lt:List (Nat×Nat)),hp1[i]?=some (.bag a ar lt)→i=bg:=fun i a ar lt e=>by
   rcases h1 i _ e with h | ⟨_,h⟩ | ⟨h,_⟩
   ·cases h
   ·exact hr.bags.one _ _ _ _ _ _ _ _ h hbag
   ·exact h
  rw[key i a ar lt hi,key j a' ar' lt' hj]
 ·rcases hsplit t x hx with⟨_,hx⟩ | ⟨_,hx⟩
  ·obtain⟨id,h3⟩:=hr.bags.lnd bg al ar lt hbag t x hx (hob _ h)
   rcases h1 i _ hi with h4 | ⟨h5,h4⟩ | ⟨_,h4⟩
   ·cases h4
   ·exact absurd (hr.bags.one _ _ _ _ _ _ _ _ h4 hbag) h5
   ·cases h4;exact⟨id,h3⟩
  ·exact absurd h (hT x hx).2.2.2.1
 ·rcases hsplit t x hx with⟨ht,hx⟩ | ⟨ht,hx⟩
  ·rcases hsplit t' x' hx' with⟨ht',hx'⟩ | ⟨ht',hx'⟩
   ·exact hr.bags.hds t t' x x' hx hx' hz hb
   ·have:=((hT x' hx').2.2.2.2.1 x (mOg hx) hb.symm).1
    omega
  ·rcases hsplit t' x' hx' with⟨ht',hx'⟩ | ⟨ht',hx'⟩
   ·have:=((hT x hx).2.2.2.2.1 x' (mOg hx') hb).2.1
    omega
   ·omega
section
variable{P:Program}{Γ:TypeId→Option TI}{F N:Nat}{Q:GPost}{fr fr':Fr}{hp hp':List Ob}{ks:List Kt}
variable{ops:Array Oper}{rest:List Oper}{g:G}{α:Type}{enc:α→List D}
variable{d:Tmp}{op:Op}{ty:TypeId}{pos:String}{after:Array Edge}{gd:Option (Nat×Bool)}
theorem Kkq{Z:Env}{M:Mp}{w:World}{bg t te tyo:TypeId}{i2:TI}{al al0:List Bool}{ar:List Ar}{lt:List (Nat×Nat)}{n m tg:Nat}{ds ys:List D}{sv xv:Value}(hΓ:TOK P Γ)(u1:P.underlying t=some (.slice te))(h2:Γ te=some i2)(hz:Nat.beq i2.zero.cells.size i2.size=true)(hz0:Nat.blt 0 i2.size=true)
  (hr:RelH Z hp M w) (hx:VD w (ownZ Z hp M) (.rt te i2.size tg n ds) sv) (hdl:ds.length=n * i2.size) (hy:VD w (ownZ Z hp M) (.ro m ys) xv) (hl:ys.length=m * i2.size) (hb:(n+m) * i2.bytes≤140737488355328) (hm:n+m≤maxLen) (hm0:0<m)
  (hbag:hp[bg]?=some (.bag al ar lt)) (htg:(tg=1∧al0=al)∨∃ q,tg=q+2∧al[q]?=some true∧al0=al.set q false) :
  ∃ (v':Value) (w':World) (gb c':Nat) (cur:Array Value),(Builtin.append_ #[t,t] tyo #[sv,xv]).run P w=.ok v' w'∧w.heap.size≤w'.heap.size∧w'.os=w.os∧w'.tape=w.tape∧w'.output=w.output∧v'=.slice (some ⟨gb,0,none⟩) (n+m) c'∧
   w'.heap[gb]?=some (.cells cur te (0,0))∧cur.size=c' * i2.size∧n+m≤c'∧c'≤maxLen∧(∀ (j:Nat) (dd:D),(ds++ys)[j]?=some dd→∃ u,cur[j]?=some u∧VD w (ownZ Z hp M) dd u)∧(∀ k,k<w.heap.size→k≠gb→w'.heap[k]?=w.heap[k]?)∧
   (w.heap.size≤gb∨∃ (q:Nat) (x:Tg),tg=q+2∧al[q]?=some true∧al0=al.set q false∧M.h[q]?=some (some x)∧x.b=gb∧x.n=n∧x.sz=i2.size∧∀ k,k<n * i2.size→w'.cell? ⟨gb,k,none⟩=w.cell? ⟨gb,k,none⟩):=by
 obtain⟨_,inf,e1,e2,e3,e4⟩:=hΓ te _ h2
 have hzs:i2.zero.cells.size=inf.size:=by rw[e2];exact nEq hz
 have hpos:0<i2.size:=nblt.1 hz0
 cases hx with
 | rt _ _ _ _ _ _ hx hT=>
 obtain⟨xb,xo,xc,news,rfl,hnl,hnc,hnv,hn1⟩:∃ (b off cap:Nat) (vs:List Value),xv=.slice (some ⟨b,off,none⟩) m cap∧vs.length=ys.length∧(∀ (j:Nat) (u:Value),vs[j]?=some u→w.cell? ⟨b,off+j,none⟩=some u)∧(∀ (j:Nat) (u:Value) (d:D),vs[j]?=some u→ys[j]?=some d→VD w (ownZ Z hp M) d u)∧∀ u∈vs,u.oneCell'=true:=by
  rcases Kbc hy with⟨_,rfl,_⟩ | h
  ·omega
  ·exact h
 have hnews:∀ (cur:Array Value),(∀ j u,news[j]?=some u→cur[n * i2.size+j]?=some u)→∀ (j:Nat) (dd:D),ys[j]?=some dd→∃ u,cur[n * i2.size+j]?=some u∧VD w (ownZ Z hp M) dd u:=fun cur hc j dd hj=>by
  have hlt:j<news.length:=by rw[hnl];exact(gEs.1 hj).1
  have:=gGe hlt
  exact⟨_,hc j _ this,hnv j _ dd this hj⟩
 have hboth:∀ (cur:Array Value),(∀ (j:Nat) (dd:D),ds[j]?=some dd→∃ u,cur[j]?=some u∧VD w (ownZ Z hp M) dd u)→(∀ j u,news[j]?=some u→cur[n * i2.size+j]?=some u)→∀ (j:Nat) (dd:D),(ds++ys)[j]?=some dd→∃ u,cur[j]?=some u∧VD w (ownZ Z hp M) dd u:=fun cur h1 h2 j dd hj=>by
  by_cases hjd:j<ds.length
  ·rw[gAl hjd] at hj;exact h1 j dd hj
  ·rw[gAr (by omega)] at hj
   obtain⟨u,k1,k2⟩:=hnews cur h2 _ dd hj
   exact⟨u,by rw[←k1];congr 1;omega,k2⟩
 have nilCase:sv=.slice none 0 0→n=0→∃ (v':Value) (w':World) (gb c':Nat) (cur:Array Value),(Builtin.append_ #[t,t] tyo #[sv,.slice (some ⟨xb,xo,none⟩) m xc]).run P w=.ok v' w'∧w.heap.size≤w'.heap.size∧w'.os=w.os∧w'.tape=w.tape∧w'.output=w.output∧v'=.slice (some ⟨gb,0,none⟩) (n+m) c'∧
   w'.heap[gb]?=some (.cells cur te (0,0))∧cur.size=c' * i2.size∧n+m≤c'∧c'≤maxLen∧(∀ (j:Nat) (dd:D),(ds++ys)[j]?=some dd→∃ u,cur[j]?=some u∧VD w (ownZ Z hp M) dd u)∧(∀ k,k<w.heap.size→k≠gb→w'.heap[k]?=w.heap[k]?)∧w.heap.size≤gb:=by
  rintro rfl rfl
  obtain⟨v',w',mo',hrun,k1,k2,k3,k4,hres⟩:=Kbd (P:=P) (tyo:=tyo) (n:=0) (m:=m) (cs0:=#[]) (sv:=.slice none 0 0) none u1 e1 e4 hzs (by rw[e2];exact hpos) (.inl ⟨rfl,rfl,rfl⟩) (.inr ⟨xb,xo,xc,rfl,hnc⟩) (by rw[hnl,hl,e2]) hn1 hm (by rw[e3];exact hb)
  rcases hres with⟨_,_,r3,_⟩ | ⟨b',c',cur,r1,r2,r3,r4,r5,r6,r7,r8,r9,r10⟩
  ·omega
  ·rcases r10 with⟨c,hc⟩ | r10
   ·cases hc
   ·have hds:ds=[]:=List.eq_nil_of_length_eq_zero (by simpa using hdl)
    subst hds
    exact⟨v',w',b',c',cur,hrun,k1,k2,k3,k4,r2,r3,by rw[r4,e2],r5,r6,hboth cur (fun j dd h=>by simp at h) (fun j u h=>by have:=r8 j u h;rw[e2] at this;exact this),r9,by omega⟩
 rcases htg with⟨rfl,rfl⟩ | ⟨q,rfl,hq,rfl⟩
 ·
  obtain⟨a,rfl,_⟩:=hT
  rcases Kbc hx with⟨e,rfl,rfl⟩ | ⟨b,off,cap,vs,e,hvl,hvc,hvv,_⟩
  ·obtain⟨v',w',gb,c',cur,k1,k2,k3,k4,k5,k6,k7,k8,k9,k10,k11,k12,k13⟩:=nilCase e rfl
   exact⟨v',w',gb,c',cur,k1,k2,k3,k4,k5,k6,k7,k8,k9,k10,k11,k12,.inl k13⟩
  ·cases e
   obtain⟨v',w',r1,r2,r3⟩:=run_append_arg_grows (P:=P) w t tyo te inf i2.zero inf.size inf.bytes u1 e1 e4 rfl rfl hzs (by rw[e2];exact hpos) ⟨b,off,none⟩ n n vs (by rw[hvl,hdl,e2]) (fun j u hj=>by rw[Addr.add_lit];exact hvc j u hj) ⟨xb,xo,none⟩ m xc news (by rw[hnl,hl,e2]) (fun j u hj=>by rw[Addr.add_lit];exact hnc j u hj) (by omega) hm (by rw[e3];exact hb)
   rcases r2.2 with⟨rfl,hn0⟩ | ⟨gb,c',cur,rfl,q1,q2,q3,q4,q5,q6⟩
   ·omega
   ·have hcur:∀ j u,(vs++news)[j]?=some u→cur[j]?=some u:=fun j u hj=>by
     have hlt:=(gEs.1 hj).1
     rw[←q6,List.getElem?_take_of_lt (by rw[List.length_append,hvl,hnl,hdl,hl,←Nat.add_mul,←e2] at hlt;exact hlt)] at hj
     simpa using hj
    refine⟨_,w',gb,c',cur,r1,r3.size,r3.os,r3.tape,r3.output,rfl,q2,by rw[q5,e2],q3,q4,hboth cur (fun j dd hj=>?_) (fun j u hj=>?_),fun k hk hne=>r3.block k hk (by simp),.inl q1⟩
    ·have hlt:j<vs.length:=by rw[hvl];exact(gEs.1 hj).1
     have hv:=gGe hlt
     exact⟨_,hcur j _ (by rw[gAl hlt];exact hv),hvv j _ dd hv hj⟩
    ·refine hcur _ u ?_
     rw[gAr (by rw[hvl,hdl];omega),hvl,hdl]
     rw[←hj];congr 1;omega
 ·rcases hT with⟨hn,rfl⟩ | ⟨x,hxh,hxn,hxt,hxs,_,rfl⟩
  ·have:n=0:=by
    cases hx with
    | nil=>rfl
   obtain⟨v',w',gb,c',cur,k1,k2,k3,k4,k5,k6,k7,k8,k9,k10,k11,k12,k13⟩:=nilCase rfl this
   exact⟨v',w',gb,c',cur,k1,k2,k3,k4,k5,k6,k7,k8,k9,k10,k11,k12,.inl k13⟩
  ·subst hxn;subst hxt
   have hbl:bg<hp.length:=(gEs.1 hbag).1
   have e:M.l[bg]?=some (M.l[bg]'(by rw[hr.len];exact hbl)):=gGe _
   have hbo:=hr.obj bg _ _ hbag e
   obtain⟨cs0,c1,c2,c3,c4⟩:∃ cs:Array Value,w.heap[x.b]?=some (.cells cs x.t (0,0))∧cs.size=x.c * x.sz∧x.n≤x.c∧x.c≤maxLen:=by
    revert hbo
    cases M.l[bg]'(by rw[hr.len];exact hbl) with
    | none=>exact fun h=>(h.2.1 q x hq hxh).2
    | some _=>exact fun h=>h.elim
   obtain⟨v',w',mo',hrun,k1,k2,k3,k4,hres⟩:=Kbd (P:=P) (tyo:=tyo) (n:=x.n) (m:=m) (cs0:=cs0) (sv:=.slice (some ⟨x.b,0,none⟩) x.n x.c) (some (x.b,x.c)) u1 e1 e4 hzs (by rw[e2];exact hpos) (.inr ⟨x.b,x.c,rfl,rfl,c1,by rw[c2,hxs,e2],c3,c4⟩) (.inr ⟨xb,xo,xc,rfl,hnc⟩) (by rw[hnl,hl,e2]) hn1 hm (by rw[e3];exact hb)
   have holds:∀ (j:Nat) (dd:D),ds[j]?=some dd→∃ u,cs0[j]?=some u∧VD w (ownZ Z hp M) dd u:=fun j dd hj=>by
    rcases Kbc hx with⟨e,_⟩ | ⟨b,off,cap,vs,e,hvl,hvc,hvv,_⟩
    ·simp at e
    ·simp only[Value.slice.injEq,Option.some.injEq,Addr.mk.injEq] at e
     obtain⟨⟨e1,e2,_⟩,_⟩:=e
     subst e2
     have hlt:j<vs.length:=by rw[hvl];exact(gEs.1 hj).1
     have hv:=gGe hlt
     have:=hvc j _ hv
     rw[Nat.zero_add,←e1,cell_of_row w x.b j cs0 _ _ c1] at this
     exact⟨_,this,hvv j _ dd hv hj⟩
   rcases hres with⟨_,_,r3,_⟩ | ⟨b',c',cur,r1,r2,r3,r4,r5,r6,r7,r8,r9,r10⟩
   ·omega
   ·have hold':∀ (j:Nat) (dd:D),ds[j]?=some dd→∃ u,cur[j]?=some u∧VD w (ownZ Z hp M) dd u:=fun j dd hj=>by
     obtain⟨u,f1,f2⟩:=holds j dd hj
     have hlt:=(gEs.1 hj).1
     exact⟨u,by rw[r7 j (by rw[←e2] at hdl;omega) (by simp)];exact f1,f2⟩
    refine⟨v',w',b',c',cur,hrun,k1,k2,k3,k4,r2,r3,by rw[r4,e2],r5,r6,hboth cur hold' (fun j u h=>by have:=r8 j u h;rw[e2] at this;exact this),r9,?_⟩
    rcases r10 with⟨c,hc⟩ | r10
    ·cases hc
     refine .inr ⟨q,x,rfl,hq,rfl,hxh,rfl,rfl,hxs,fun k hk=>?_⟩
     rw[cell_of_row w' x.b k cur _ _ r3,cell_of_row w x.b k cs0 _ _ c1]
     exact r7 k (by rw[e2];exact hk) (by simp)
    ·exact .inl (by omega)
def appT{α:Type}(al:List Bool)(s:Tl α)(m:List α):Option (Tl α×List Bool):=
 bi (apd s.2 m) fun r=>bif m.isEmpty then some (s,al) else match s.1 with
  | 0=>none
  | 1=>some ((al.length+2,r),al++[true])
  | t+2=>bif (al[t]?).getD false then some ((al.length+2,r),al.set t false++[true]) else none
theorem Kkr{al al':List Bool}{s r:Tl α}{m:List α}(h:appT al s m=some (r,al')):apd s.2 m=some (s.2++m)∧((m=[]∧r=s∧al'=al)∨(m≠[]∧r=(al.length+2,s.2++m)∧∃ al0,al'=al0++[true]∧((s.1=1∧al0=al)∨∃ q,s.1=q+2∧al[q]?=some true∧al0=al.set q false))):=by
 unfold appT at h
 obtain⟨r0,hr,h⟩:=Kdw h
 obtain⟨rfl,hle⟩:=Keb hr
 refine⟨hr,?_⟩
 cases m with
 | nil=>simp at h;exact .inl ⟨rfl,h.1.symm,h.2.symm⟩
 | cons y m=>
  right
  simp only[List.isEmpty_cons,cond_false] at h
  refine⟨by simp,?_⟩
  obtain⟨t,l⟩:=s
  match t,h with
  | 1,h=>simp at h;exact⟨h.1.symm,al,h.2.symm,.inl ⟨rfl,rfl⟩⟩
  | t+2,h=>
   simp only at h
   cases hc:(al[t]?).getD false with
   | false=>rw[hc] at h;cases h
   | true=>
    rw[hc] at h
    simp at h
    refine⟨h.1.symm,al.set t false,h.2.symm,.inr ⟨t,rfl,?_,rfl⟩⟩
    cases hq:al[t]? with
    | none=>rw[hq] at hc;cases hc
    | some b=>rw[hq] at hc;simp at hc;rw[hc]
theorem Kks{w:World}{t te tyo:TypeId}{inf:TypeInfo}{n c:Nat}{a:Option Addr}{xv:Value}(hu:P.underlying t=some (.slice te))(hi:P.info? te=some inf)(hn:n≤c)(hx:(xv=.slice none 0 0)∨∃ b cap,xv=.slice (some b) 0 cap) :
  (Builtin.append_ #[t,t] tyo #[.slice a n c,xv]).run P w=.ok (.slice a n c) w:=by
 rcases hx with rfl | ⟨b,cap,rfl⟩
 ·cases a<;>simp[Builtin.append_,run_underlying hu,sizeOf,typeInfo,hi,Builtin.lenOf,Builtin.firstCells,hn,storeCells]
 ·cases a<;>simp[Builtin.append_,run_underlying hu,sizeOf,typeInfo,hi,Builtin.lenOf,Builtin.firstCells,loadCells,loadCellsFrom,hn,storeCells]
theorem Kkt{w:World}{O:Ow}{n:Nat}{xs:List D}{v:Value}(h:VD w O (.ro n xs) v):∃ a c,v=.slice a n c∧n≤c:=by
 cases h with
 | nil=>exact⟨_,_,rfl,Nat.le_refl _⟩
 | ro _ _ b off cap vs h3 h4 h5=>exact⟨_,_,rfl,h5⟩
theorem Kku(hΓ:TOK P Γ){t te:TypeId}{i1 i2:TI}{x y:Operand}{bg:Nat}{s r:Tl α}{m:List α}{al al':List Bool}{ar:List Ar}{lt:List (Nat×Nat)}{hp2:List Ob}(hz:appT al s m=some (r,al'))(h1:Γ t=some i1)(h1':i1.desc=.slice te)(h2:Γ te=some i2)(hzc:Nat.beq i2.zero.cells.size i2.size=true)(hz0:Nat.blt 0 i2.size=true)
  (hx:fr.ev x=some (.d (Slt te i2.size enc s))) (hy:fr.ev y=some (.d (Sl enc m))) (hbag:hp[bg]?=some (.bag al ar lt)) (henc:∀ y,(enc y).length=i2.size) (hbytes:Nat.ble (4294967296 * i2.bytes) 140737488355328=true) (hhp:hp.set bg (.bag al' ar lt)=hp2) :
  OpS P N ⟨some d,.call ⟨.builtin .append,#[x,y],#[t,t]⟩,ty,pos,after,gd⟩ fr hp (.d (Slt te i2.size enc r)) hp2:=by
 subst hhp
 intro Z w M a hr
 obtain⟨u1,_⟩:=hΓ t _ h1
 rw[h1'] at u1
 have hvx:=hr.ev hx
 have hvy:=hr.ev hy
 obtain⟨hap,hcase⟩:=Kkr hz
 obtain⟨_,hle⟩:=Keb hap
 generalize hvvx:a.eval x=vx at hvx
 generalize hvvy:a.eval y=vy at hvy
 cases hvx with
 | d hvx=>
 cases hvy with
 | d hvy=>
 have hb:=nBe hbytes
 have hmul:(s.2.length+m.length) * i2.bytes≤4294967296 * i2.bytes:=Nat.mul_le_mul_right _ hle
 rcases hcase with⟨rfl,rfl,rfl⟩ | ⟨hmne,rfl,al0,rfl,htg⟩
 ·obtain⟨_,inf,e1,e2,e3,e4⟩:=hΓ te _ h2
  have hset:hp.set bg (.bag al' ar lt)=hp:=by
   apply List.ext_getElem?
   intro j
   by_cases hj:bg=j
   ·subst hj;rw[gSs (gEs.1 hbag).1,hbag]
   ·rw[gSn hj]
  rw[hset]
  have hrun:(Builtin.append_ #[t,t] ty #[vx,vy]).run P w=.ok vx w:=by
   have hxx:∃ a' n' c',vx=.slice a' n' c'∧n'≤c':=by
    cases hvx with
    | rt _ _ _ _ _ _ hx' _=>exact let ⟨a',c',e,h⟩:=Kkt hx';⟨a',_,c',e,h⟩
   obtain⟨a',n',c',rfl,hn'⟩:=hxx
   refine Kks u1 e1 hn' ?_
   rcases Kbc hvy with⟨e,_⟩ | ⟨b,off,cap,vs,e,_⟩
   ·exact .inl e
   ·exact .inr ⟨_,_,e⟩
  exact⟨vx,w,M,by simp[execOp,resolve,invoke,builtin,hvvx,hvvy,hrun],hr.heap,.d hvx,.refl _ _,⟨Nat.le_of_eq hr.heap.len.symm,fun _ _=>rfl⟩⟩
 ·have hm0:0<m.length:=by cases m with
   | nil=>exact absurd rfl hmne
   | cons _ _=>simp
  obtain⟨v',w',gb,c',cur,k1,k2,k3,k4,k5,k6,k7,k8,k9,k10,k11,k12,k13⟩:=Kkq (P:=P) (tyo:=ty) (bg:=bg) hΓ u1 h2 hzc hz0 hr.heap hvx (Kem henc s.2) hvy (Kem henc m) (by omega) (by simp only[maxLen];omega) hm0 hbag htg
  have hbl:bg<hp.length:=(gEs.1 hbag).1
  have hlen:al0.length=al.length:=by rcases htg with⟨_,rfl⟩ | ⟨q,_,_,rfl⟩<;>simp
  have hal:∀ t:Nat,al0[t]?=some true→al[t]?=some true:=fun t ht=>by
   rcases htg with⟨_,rfl⟩ | ⟨q,_,_,rfl⟩
   ·exact ht
   ·by_cases hqt:q=t
    ·subst hqt
     have hl:=(gEs.1 ht).1
     rw[gSs (by simpa using hl)] at ht
     cases ht
    ·rw[gSn hqt] at ht;exact ht
  have hobg:¬ obOwn (hp.set bg (.bag (al0++[true]) ar lt)) M gb:=by
   rintro⟨i,o,c,e1,e2,e3⟩
   have hold:hp[i]?=some o∧o.live=true:=by
    by_cases hi:bg=i
    ·subst hi
     exfalso
     have:=hr.heap.obj bg _ _ hbag e3
     exact this
    ·rw[gSn hi] at e1;exact⟨e1,e2⟩
   rcases k13 with h | ⟨q,x,_,_,_,hxh,rfl,_,hxs,_⟩
   ·have:=hr.heap.block_ob ⟨i,o,c,hold.1,hold.2,e3⟩;omega
   ·exact(hr.heap.bags.tgs x (mOg hxh)).2 (by rename_i hxs _;rw[hxs];exact nblt.1 hz0) ⟨i,o,c,hold.1,hold.2,e3⟩
  have hbo:al.length=M.h.length∧(∀ (t t':Nat) (x x':Tg),al[t]?=some true→M.h[t]?=some (some x)→M.h[t']?=some (some x')→x'.b=x.b→x'.n * x'.sz≤x.n * x.sz∧(al[t']?=some true→t'=t)):=by
   have e:M.l[bg]?=some (M.l[bg]'(by rw[hr.heap.len];exact hbl)):=gGe _
   have:=hr.heap.obj bg _ _ hbag e
   revert this
   cases M.l[bg]'(by rw[hr.heap.len];exact hbl) with
   | none=>exact fun h=>⟨h.1,h.2.2.1⟩
   | some _=>exact fun h=>h.elim
  obtain⟨r1,r2,r3⟩:=Kkp (hp1:=hp.set bg (.bag (al0++[true]) ar lt)) (al0:=al0) true (some ⟨gb,s.2.length+m.length,c',i2.size,te,false⟩) hr.heap hbag (by simp) (fun i o hi=>by
    by_cases hib:bg=i
    ·subst hib;rw[gSs hbl] at hi;cases hi;exact .inr (.inr ⟨rfl,rfl⟩)
    ·rw[gSn hib] at hi;exact .inr (.inl ⟨Ne.symm hib,hi⟩)) (gSs hbl) k2 k3 k4 k5 (fun k hk hne=>k12 k hk (hne _ rfl)) hlen hal (fun y hy=>by
    cases hy
    refine⟨fun _=>⟨nblt.1 hz0,cur,k7,k8,k9,k10⟩,(aEs.1 k7).1,fun hlt=>?_,hobg,fun x hx hxb=>?_,fun t x ht hx hxb=>?_⟩
    ·rcases k13 with h | ⟨q,x,_,_,_,hxh,hxb,_⟩
     ·have:gb<w.heap.size:=hlt;omega
     ·exact .inr ⟨⟨bg,al,ar,lt,hbag⟩,x,mOg hxh,hxb⟩
    ·rcases k13 with h | ⟨q,x0,_,hq,_,hxh,hxb0,hxn,hxs,hfz⟩
     ·have:=(hr.heap.bags.tgs x hx).1
      rw[hxb] at this
      exact absurd this (Nat.not_lt.2 h)
     ·obtain⟨t',ht'⟩:=List.getElem?_of_mem hx
      have hle2:=(hbo.2 q t' x0 x hq hxh ht' (hxb.trans hxb0.symm)).1
      have hmm:s.2.length * i2.size≤(s.2.length+m.length) * i2.size:=Nat.mul_le_mul_right _ (by omega)
      rw[hxn,hxs] at hle2
      have hz1:0<i2.size:=nblt.1 hz0
      have hzx:0<x.sz:=Nat.pos_of_ne_zero fun e=>by
       have:=hr.heap.bags.hds t' q x x0 ht' hxh e (hxb0.trans hxb.symm)
       subst this;rw[ht'] at hxh;cases hxh;omega
      refine⟨hzx,hz1,Nat.le_trans hle2 hmm,fun k hk=>?_⟩
      rw[hxb]
      exact hfz k (nLl hk hle2)
    ·rcases k13 with h | ⟨q,x0,_,hq,ha0,hxh,hxb0,_⟩
     ·have:=(hr.heap.bags.tgs x (mOg hx)).1
      rw[hxb] at this
      exact absurd this (Nat.not_lt.2 h)
     ·have hqt:=(hbo.2 q t x0 x hq hxh hx (hxb.trans hxb0.symm)).2 (hal t ht)
      subst hqt
      rw[ha0,gSs (gEs.1 hq).1] at ht
      cases ht) ar (Kko hr.heap hbag hvx htg) (.inl rfl)
  refine⟨v',w',_,by simp[execOp,resolve,invoke,builtin,hvvx,hvvy,k1],r1,.d (.rt _ _ _ _ _ _ ?_ ?_),r2,r3⟩
  ·rw[k6]
   have hlr:(s.2++m).length=s.2.length+m.length:=List.length_append
   have hfl:((s.2++m).flatMap enc).length=(s.2.length+m.length) * i2.size:=by rw[Kem henc,hlr]
   rw[hlr]
   refine .ro _ _ gb 0 c' (fun j=>cur.getD j undef) (aEs.1 k7).1 (fun j hj _=>⟨_,List.mem_append_right _ (List.mem_singleton.2 rfl),rfl,?_⟩) k9 k10 (fun j dd hj=>?_) (fun j dd hj=>?_)
   ·rw[hfl] at hj;simpa using hj
   ·rw[List.flatMap_append] at hj
    obtain⟨u,f1,_⟩:=k11 j dd hj
    rw[Nat.zero_add,cell_of_row w' gb j cur _ _ k7]
    simp[f1]
   ·rw[List.flatMap_append] at hj
    obtain⟨u,f1,f2⟩:=k11 j dd hj
    simpa [f1] using f2.step (Koi Z r2)
  ·refine .inr ⟨⟨gb,s.2.length+m.length,c',i2.size,te,false⟩,?_,by simp,rfl,rfl,rfl,by rw[k6];simp⟩
   show(M.h++[_])[al.length]?=_
   rw[hbo.1]
   simp
theorem Kkv{o:Oper}{g':G}(h:OpP P N o fr hp g)(hle:g.Le g'):OpP P N o fr hp g':=fun Z w M a hr=>let ⟨v,h1,h2⟩:=h Z w M a hr;⟨v,h1,hle _ _ _ _ h2⟩
theorem G.Le.unt{te:TypeId}{sz:Nat}{s:Tl α}:G.Le (.d (Slt te sz enc s)) (.d (Sl enc s.2)):=fun w O M v hv=>by
 cases hv with
 | d h=>cases h with
  | rt _ _ _ _ _ _ h _=>exact .d h
theorem G.Le.tagN{te:TypeId}{sz:Nat}:G.Le (.d (.v (.slice none 0 0))) (.d (Slt te sz enc (1,[]))):=fun w O M v hv=>by
 rw[vr_v hv]
 exact .d (.rt _ _ _ _ _ _ .nil ⟨_,rfl,fun _=>rfl⟩)
abbrev fTag(l:List α):Nat:=bif l.isEmpty then 0 else 1
theorem Kkw{ks:List Nat}{i:TI}{gs:List G}(hz:(i.zero.cells.toList.all (·.oneCell'))=true)(hle:G.LeAll (zeroX ks i) gs):i.zero.cells.size=gs.length∧∀ w O M,CellsR w O M i.zero.cells gs:=by
 obtain⟨hl,hg⟩:=hle.spec
 refine⟨by rw[←hl];simp[zeroX],fun w O M j g hj=>?_⟩
 obtain⟨g0,h0,hle0⟩:=hg j g hj
 simp only[zeroX,List.getElem?_mapIdx] at h0
 obtain⟨c,hc,rfl⟩:=oMs.1 h0
 have h1:=lAe.1 hz c (mOg hc)
 refine⟨c,by simpa using hc,h1,hle0 _ _ _ _ (.d ?_)⟩
 cases ks.contains j with
 | true=>exact .v c h1
 | false=>exact Koz c h1
theorem Kkx(hΓ:TOK P Γ){t:TypeId}{i:TI}(hi:Γ t=some i){o:Oper}(ho:o.op=.alloc t):Lays P o t i.zero.cells:=fun ev w=>by
 obtain⟨_,inf,e1,e2,e3,e4⟩:=hΓ t i hi
 simp[execOp,ho,Instr.alloc,zeroValue,typeInfo,e1,e4,newVar,newRow]
section
variable{hpL:List Ob}{ll hl bl:List Nat}{k:Nat}{QF:Fr→List Ob→Prop}
theorem Kky(hΓ:TOK P Γ)(j:Nat){t:TypeId}{i:TI}(hi:Γ t=some i)(hk:Nat.blt k 1000=true)(hn:inL bl (k+1000 * (j+1))=true)(hd:Nat.blt d N=true)(kk:GE P N hpL ll hl bl ops QF (k+1) rest ((d,.junk) :: fr) hp):GE P N hpL ll hl bl ops QF k (⟨some d,.alloc t,ty,pos,after,none⟩ :: rest) fr hp:=by
 refine⟨some d,.junk,hp,.inr (.inl ⟨⟨j,d,t,i.zero.cells,⟨nblt.1 hk,hn⟩,rfl,nblt.1 hd,rfl,Kkx hΓ hi rfl⟩,rfl,rfl,rfl⟩),?_⟩
 unfold GE at kk
 rw[Fr.get_cons] at kk
 exact kk
theorem Kkz(hΓ:TOK P Γ)(i0 d0:Nat)(ks:List Nat)(gs:List G)(hp':List Ob){o0:Oper}{t0:TypeId}{i:TI}(ho0:ops[i0]?=some o0)(hop:o0.op=.alloc t0)(hod:o0.dst=some d0)(hi:Γ t0=some i)(hz:(i.zero.cells.toList.all (·.oneCell'))=true)(hle:G.LeAll (zeroX ks i) gs)
  (hk:Nat.blt i0 1000=true) (hn:inL bl (i0+1000 * (k+1))=true) (hh:inL hl k=true) (hlen:Nat.ble (hp++[Ob.box t0 gs]).length hp'.length=true) (hst:inL bl k=false→Stays hpL hp→Stays hpL hp')
  (hq:QtE P N ⟨none,op,ty,pos,after,none⟩ (Fr.only (Oper.looksAt ops ⟨none,op,ty,pos,after,none⟩) ((d0,.ptr hp.length 0) :: fr)) (hp++[.box t0 gs]) g hp') (kk:GE P N hpL ll hl bl ops QF (k+1) rest ((d0,.ptr hp.length 0) :: fr) hp') (hnn:noNew bl k=true:=by rfl) :
  GE P N hpL ll hl bl ops QF k (⟨none,op,ty,pos,after,none⟩ :: rest) fr hp:=by
 obtain⟨z1,z2⟩:=Kkw hz hle
 have hlen':=nBe hlen
 refine⟨some d0,.ptr hp.length 0,hp',.inr (.inr (.inr ⟨hh,⟨i0,d0,o0,t0,i.zero.cells,gs,g,⟨nblt.1 hk,hn⟩,ho0,hod,Kkx hΓ hi hop,z1,z2,rfl,rfl,rfl,?_,⟨(fun d' h=>by cases h),.inl rfl,hlen',_,fun t g' h=>?_,hq⟩⟩,Kgo hnn,hst⟩)),?_⟩
 ·simp at hlen';omega
 ·have:=Fr.only_get h
  rw[Fr.get_cons] at this
  exact this
 ·unfold GE at kk
  rw[Fr.get_cons] at kk
  exact kk
end
end
end Go.Gk
namespace Go.Gk
def updA{α:Type}(k:Int)(j:Nat)(v a:α):α:=if k=(j:Int) then v else a
def updL{α:Type}(k:Int)(v:α):Nat→List α→List α
 | _,[]=>[]
 | j,a :: l=>updA k j v a :: updL k v (j+1) l
theorem Kla{α:Type}{v:α}:∀ (l:List α) (i j:Nat),updL ((i+j:Nat):Int) v j l=l.set i v
 | [],i,j=>by simp[updL]
 | a :: l,0,j=>by
  have key:∀ (m:List α) (q:Nat),j<q→updL ((j:Nat):Int) v q m=m:=by
   intro m
   induction m with
   | nil=>intro q _;rfl
   | cons b m ih=>intro q hq;simp only[updL,ih (q+1) (by omega)];unfold updA;rw[if_neg (by omega)]
  simp only[updL,Nat.zero_add,List.set_cons_zero]
  rw[key l (j+1) (by omega)]
  unfold updA
  rw[if_pos rfl]
 | a :: l,i+1,j=>by
  have:=Kla (v:=v) l i (j+1)
  rw[show i+(j+1)=i+1+j by omega] at this
  simp only[updL,this,List.set_cons_succ]
  unfold updA
  rw[if_neg (by omega)]
theorem Klb{α β:Type}(f:α→β)(v:α){l:List α}{i:Nat}(h:i<l.length):setAt (l.map f) i [f v]=(updL (i:Int) v 0 l).map f:=by
 have:=Kla (v:=v) l i 0
 rw[Nat.add_zero] at this
 rw[this]
 refine List.ext_getElem? fun j=>?_
 rw[Kqp (by simp;omega),List.map_set,List.getElem?_set]
 by_cases hj:i=j
 ·subst hj;simp[h]
 rw[if_neg (by simp;omega),if_neg hj]
section
variable{P:Program}{Γ:TypeId→Option TI}{F N:Nat}{Q:GPost}{fr fr':Fr}{hp:List Ob}{ks:List Kt}
variable{α:Type}{enc:α→List D}{ops:Array Oper}{rest:List Oper}{g:G}
variable{d:Tmp}{op:Op}{ty:TypeId}{pos:String}{after:Array Edge}{gd':Option (Nat×Bool)}
theorem Klc(hΓ:TOK P Γ){t e:TypeId}{i1 i2:TI}{x y:Operand}{id off len:Nat}{l:List α}{z:α}{kd:IntKind}{k:Int}(hz:getZ l k=some z)(hl:l.length=len)(h1:Γ t=some i1)(h1':i1.desc=.array len e)(h2:Γ e=some i2)
  (hx:fr.ev x=some (.ptr id off)) (hy:fr.ev y=some (.d (.v (.int kd k)))):OpP P N ⟨some d,.indexAddr t x y,ty,pos,after,gd'⟩ fr hp (.ptr id (off+k.toNat * i2.size)):=fun Z w M a hr=>by
 obtain⟨i,rfl,hi,_⟩:=Kdy hz
 rw[hl] at hi
 obtain⟨u1,_⟩:=hΓ t _ h1
 rw[h1'] at u1
 have hs:=run_size' (P:=P) (w:=w) hΓ h2
 have hvx:=hr.ev hx
 simp only[execOp,hr.ev_v hy]
 generalize a.eval x=vx at hvx
 cases hvx with
 | ptr hM=>
  rename_i b c
  refine⟨.pointer (some ⟨b,off+i * i2.size,none⟩),?_,.ptr hM⟩
  have:(0:Int)≤(i:Int)∧(i:Int)<(len:Int):=by omega
  simp[Instr.indexAt,Instr.sureAddr,asIntOf,run_underlying u1,hs,this,Addr.add_lit,hi]
theorem Kld(hΓ:TOK P Γ){t tb:TypeId}{i:TI}{x:Operand}{id off:Nat}{l:List α}{z:α}{f:α→G}{gs:List G}{k:Int}(hz:getZ l k=some z)(hi:Γ t=some i)(hag:TypeDesc.isAgg i.desc=false)(hx:fr.ev x=some (.ptr id off))(hoff:off=0+k.toNat * 1)
  (ho:hp[id]?=some (.box tb gs)) (hgs:gs=l.map f):OpP P N ⟨some d,.load t x,ty,pos,after,gd'⟩ fr hp (f z):=by
 obtain⟨j,rfl,hj,hz'⟩:=Kdy hz
 have e:off=j:=by rw[hoff];simp
 subst e
 refine Kpw hΓ ?_
 simp only[pst,hi,Option.bind_some,hx,ho]
 unfold loadG
 rw[hag,hgs]
 simp[hz']
theorem Kle(hΓ:TOK P Γ){t tb:TypeId}{x y:Operand}{i:TI}{id off:Nat}{l:List α}{z v:α}{f:α→G}{gs:List G}{hp2:List Ob}{k:Int}(hz:getZ l k=some z)(hi:Γ t=some i)(hx:fr.ev x=some (.ptr id off))(hoff:off=0+k.toNat * 1)
  (ho:hp[id]?=some (.box tb gs)) (hgs:gs=l.map f) (hy:fr.ev y=some (f v)) (hg:cellsG (f v)=some [f v]) (h1:(f v).one=true) (hsz:Nat.beq 1 i.size=true) (hhp:hp.set id (.box tb ((updL k v 0 l).map f))=hp2) :
  OpU P N ⟨none,.store t x y,ty,pos,after,gd'⟩ fr hp hp2:=by
 obtain⟨j,rfl,hj,hz'⟩:=Kdy hz
 have e:off=j:=by rw[hoff];simp
 subst e
 subst hgs
 subst hhp
 rw[←Klb f v hj]
 exact Khv hΓ hi hx ho hy hg (by simp[h1]) (by simpa using hsz) (Nat.ble_eq_true_of_le (by simp;omega))
theorem Klf{t e:TypeId}{k:IntKind}{n d:Nat}(w:World)(hu:P.underlying t=some (.array n e))(he:P.underlying e=some (.int k))(hs:(sizeOf e).run P w=.ok 1 w){xs ys:List Int}{X Y:Array Value}
  (hX:∀ (j:Nat) (x:Int),xs[j]?=some x→X[j]?=some (.int k x)) (hY:∀ (j:Nat) (x:Int),ys[j]?=some x→Y[j]?=some (.int k x)) (hx:xs.length=n) (hy:ys.length=n) :
  (Op.equalIn (d+2) t (.agg X) (.agg Y)).run P w=.ok (decide (xs=ys)) w:=by
 have hpk:P.plainKey e=true:=by unfold Program.plainKey;rw[he]
 rw[Op.equalIn]
 simp only[Sem.run_bind,run_underlying hu,Result.andThen_ok,hs]
 rw[Std.Legacy.Range.forIn_eq_forIn_range']
 simp only[Std.Legacy.Range.size,Nat.sub_zero,Nat.add_sub_cancel,Nat.div_one,Nat.mul_one]
 have key:∀ (m o:Nat),o+m=n→(forIn (m:=Sem) (List.range' o m 1) ((none,()):Option Bool×Unit) fun i r=>do
   let a←part e X i
   let b←part e Y i
   let q←Op.equalIn (d+1) e a b
   if (!q)=true then pure (ForInStep.done (some false,())) else pure (ForInStep.yield (none,()))).run P w=.ok (if xs.drop o=ys.drop o then(none,()) else(some false,())) w:=by
  intro m
  induction m with
  | zero=>
   intro o ho
   rw[List.drop_eq_nil_of_le (by omega),List.drop_eq_nil_of_le (by omega)]
   simp
  | succ m ih=>
   intro o ho
   have hox:o<xs.length:=by omega
   have hoy:o<ys.length:=by omega
   rw[List.range'_succ,List.forIn_cons]
   simp only[Sem.run_bind,run_part_plain w hpk (hX o _ (List.getElem?_eq_getElem hox)),run_part_plain w hpk (hY o _ (List.getElem?_eq_getElem hoy)),Result.andThen_ok,run_equalIn_int w d e k k _ _ he]
   have e1:xs.drop o=xs[o] :: xs.drop (o+1):=List.drop_eq_getElem_cons hox
   have e2:ys.drop o=ys[o] :: ys.drop (o+1):=List.drop_eq_getElem_cons hoy
   by_cases hq:xs[o]=ys[o]
   ·simp only[hq,beq_self_eq_true,Bool.not_true,Bool.false_eq_true,if_false,Sem.run_pure,Result.andThen_ok]
    rw[ih (o+1) (by omega)]
    have:(xs.drop (o+1)=ys.drop (o+1))=(xs.drop o=ys.drop o):=propext ⟨fun h=>by rw[e1,e2,hq,h],fun h=>by rw[e1,e2] at h;exact(List.cons.inj h).2⟩
    simp only[this]
   ·have:¬ xs.drop o=ys.drop o:=fun h=>by rw[e1,e2] at h;exact hq (List.cons.inj h).1
    rw[if_neg this]
    simp only[beq_eq_false_iff_ne.2 hq,Bool.not_false,if_true,Sem.run_pure,Result.andThen_ok]
 have k0:=key n 0 (by omega)
 simp only[List.drop_zero] at k0
 rw[k0]
 by_cases h:xs=ys
 ·simp[h]
 ·simp[h]
theorem Klg{w:World}{O:Ow}{M:Mp}{k:IntKind}{l:List Int}{xs:List G}{v:Value}(hl:xs=l.map fun z=>.d (.v (.int k z)))(h:VR w O M (.agg xs) v):∃ X,v=.agg X∧∀ (j:Nat) (x:Int),l[j]?=some x→X[j]?=some (.int k x):=by
 subst hl
 cases h with
 | agg hl ih=>
  rename_i X
  refine⟨X,rfl,fun j x hj=>?_⟩
  have hlt:j<X.size:=by rw[hl];simpa using (gEs.1 hj).1
  have e:X[j]?=some X[j]:=Array.getElem?_eq_getElem hlt
  have:=ih j (.d (.v (.int k x))) X[j] (by rw[gMp,hj];rfl) e
  rw[e,vr_v this]
theorem Klh(hΓ:TOK P Γ){t e t':TypeId}{i1 i2:TI}{x y:Operand}{l1 l2:List Int}{xs ys:List G}{k:IntKind}{n:Nat}(h1:Γ t=some i1)(h1':i1.desc=.array n e)(h2:Γ e=some i2)(h2':i2.desc=.int k)(hsz:i2.size=1)(hm:P.eqGuardType P.depth t=false)
  (hx:fr.ev x=some (.agg xs)) (hy:fr.ev y=some (.agg ys)) (hxs:xs=l1.map fun z=>.d (.v (.int k z))) (hys:ys=l2.map fun z=>.d (.v (.int k z))) (hl1:l1.length=n) (hl2:l2.length=n):OpP P N ⟨some d,.binOp .neq t x y t',ty,pos,after,gd'⟩ fr hp (B (!decide (l1=l2))):=fun Z w M a hr=>by
 obtain⟨X,eX,hX⟩:=Klg hxs (hr.ev hx)
 obtain⟨Y,eY,hY⟩:=Klg hys (hr.ev hy)
 obtain⟨u1,_⟩:=hΓ t _ h1
 obtain⟨u2,_⟩:=hΓ e _ h2
 rw[h1'] at u1
 rw[h2'] at u2
 have hs:=run_size' (P:=P) (w:=w) hΓ h2
 rw[hsz] at hs
 have h3:=Klf (d:=9998) w u1 u2 hs hX hY hl1 hl2
 refine⟨.bool (!decide (l1=l2)),?_,.d (.v _ rfl)⟩
 simp only[execOp,eX,eY,Sem.run_bind,run_eqGuard_agg w _ t _ _ _ _ hm,Result.andThen_ok,run_neq_struct,h3]
 rfl
def Rn(P:Program)(F N:Nat)(Q:GPost)(c:Code)(ks:List Kt):Nat→Fr→List Ob→Prop
 | 0=>fun _ _=>False
 | n+1=>fun fr hp=>St.holds P F N Q (.code c (.mid (Rn P F N Q c ks n) :: ks)) fr hp
end
def insK(n:Int)(g:G):List (Int×G)→List (Int×G)
 | []=>[(n,g)]
 | e :: r=>if n<e.1 then(n,g) :: e :: r else e :: insK n g r
def pmE(k:IntKind)(m:List (Int×G)):List (Value×G):=m.map fun e=>(kI k e.1,e.2)
def unI(k:IntKind):List (Value×G)→Option (List (Int×G))
 | []=>some []
 | (.int k' n,g) :: r=>if k'=k then match unI k r with
   | some m=>some ((n,g) :: m)
   | none=>none
  else none
 | _=>none
section
variable{P:Program}{Γ:TypeId→Option TI}{F N:Nat}{Q:GPost}{fr fr':Fr}{hp hp':List Ob}{ks:List Kt}
variable{d:Tmp}{op:Op}{ty:TypeId}{pos:String}{after:Array Edge}{gd:Option (Nat×Bool)}
structure PmAt(w:World)(O:Ow)(M:Mp)(k:IntKind)(b:Nat)(m m':List (Int×G))(ms:Array MapEntry)(cl:Nat):Prop where
 perm:m'.Perm m
 apart:m'.Pairwise fun x y=>kI k x.1≠kI k y.1
 heap:w.heap[b]?=some (.map ms cl)
 size:ms.size=m'.length
 born:Born ms cl
 get:∀ (j:Nat) (x:Int×G),m'[j]?=some x→∃ e:MapEntry,ms[j]?=some e∧e.key=kI k x.1∧e.val.oneCell'=true∧VR w O M x.2 e.val
theorem PmAt.find{w:World}{O:Ow}{M:Mp}{k:IntKind}{b:Nat}{m m':List (Int×G)}{ms:Array MapEntry}{cl:Nat}(h:PmAt w O M k b m m' ms cl)(n:Int) :
  Instr.findNow (.int k) (kI k n) ms.toList 0=some ((m'.findIdx? fun e=>n==e.1).bind fun j=>(ms[j]?).map fun e=>(j,e.val)):=by
 have:=Kjj (Kji k) n ms.toList m' 0 (by simpa using h.size) (fun j e x he hj=>by
  obtain⟨e',e1,e2,_⟩:=h.get j x hj
  have:e=e':=by
   have he':ms[j]?=some e:=by simpa using he
   rw[e1] at he';exact(oSi he').symm
  rw[this];exact e2)
 rw[this]
 congr 2
 funext j
 simp
end
end Go.Gk
namespace Go.Gk
def pf(ρ:List Nat)(i:Nat):Nat:=ρ.getD i i
def prmB(ρ σ:List Nat)(n0 n:Nat):Bool:=(List.range n).all (fun i=>Nat.blt (pf ρ i) n&&Nat.blt (pf σ i) n&&Nat.beq (pf σ (pf ρ i)) i&&Nat.beq (pf ρ (pf σ i)) i)&&(List.range n0).all fun i=>Nat.beq (pf ρ i) i
def prmObs(ρ σ:List Nat)(hp:List Ob):List Ob:=(List.range hp.length).map fun j=>(hp.getD (pf σ j) .dead).ren (pf ρ)
def ocat{α:Type}(f:Nat→Option (List α)):List Nat→Option (List α)
 | []=>some []
 | i :: r=>match f i with
  | some a=>match ocat f r with
   | some b=>some (a++b)
   | none=>none
  | none=>none
def bxOf(bx:List (Nat×List Nat))(k:Nat):List Nat:=match bx with
 | []=>[]
 | e :: r=>bif Nat.beq e.1 k then e.2 else bxOf r k
def bldSt(Γ:TypeId→Option TI)(fr:Fr)(xs:List Nat):Op→Option G
 | .build t parts=>match Γ t with
  | some ⟨.struct fs,a,b,z⟩=>bif (fs.toList.all fun f=>(Γ f.type).isSome)&&(z.cells.toList.all (·.oneCell')) then
    (evParts fr parts.toList).bind fun pg=>(fillG (placesG Γ fs) (zeroX xs ⟨.struct fs,a,b,z⟩) pg).map .agg
   else none
  | _=>none
 | _=>none
def xstep(Γ:TypeId→Option TI)(N:Nat)(hpL:List Ob)(ll:List Nat)(bx:List (Nat×List Nat))(full:Array Oper)(k:Nat)(fr:Fr)(o:Oper):Option Fr:=match o with
 | ⟨some d,.build t parts,ty,pos,after,none⟩=>bif Nat.blt d N then(bldSt Γ (fr.only (Oper.looksAt full ⟨some d,.build t parts,ty,pos,after,none⟩)) (bxOf bx k) (.build t parts)).map fun g=>(d,g) :: fr else none
 | _=>estep Γ N hpL ll [] full k fr o
def deadB(hpL:List Ob)(id:Nat):Bool:=match hpL[id]? with
 | some o=>!o.live
 | none=>true
def hst(Γ:TypeId→Option TI)(N:Nat)(hpL:List Ob)(full:Array Oper)(fr:Fr)(hp:List Ob):Oper→Option (Fr×List Ob)
 | ⟨some d,.box t x,ty,pos,after,none⟩=>bif Nat.blt d N then((fr.only (Oper.looksAt full ⟨some d,.box t x,ty,pos,after,none⟩)).ev x).bind fun g=>(cellsG g).bind fun gs=>bif gs.all G.one then some ((d,.ptr hp.length 0) :: fr,hp++[.box t gs]) else none else none
 | ⟨some d,.buildSlice t len parts,ty,pos,after,none⟩=>match Γ t with
  | some ⟨.slice e,_,_,_⟩=>match Γ e with
   | some i2=>bif Nat.blt d N&&(i2.zero.cells.toList.all (·.oneCell'))&&Nat.blt 0 i2.zero.cells.size&&Nat.ble (len * i2.size) 16777216&&Nat.ble len 16777216 then
     (evParts (fr.only (Oper.looksAt full ⟨some d,.buildSlice t len parts,ty,pos,after,none⟩)) parts.toList).bind fun pg=>(fillG (fun i=>some (i * i2.size,i2.size)) (zerosG i2 len) pg).bind fun gs=>(toDs gs).bind fun ds=>some ((d,.sl hp.length len) :: fr,hp++[.row e i2.size len ds])
    else none
   | none=>none
  | _=>none
 | ⟨none,.store t x y,ty,pos,after,none⟩=>match Γ t with
  | some i=>match (fr.only (Oper.looksAt full ⟨none,.store t x y,ty,pos,after,none⟩)).ev x with
   | some (.ptr id off)=>match hp[id]? with
    | some (.box tb gs)=>((fr.only (Oper.looksAt full ⟨none,.store t x y,ty,pos,after,none⟩)).ev y).bind fun g=>(cellsG g).bind fun new=>
      bif new.all G.one&&Nat.beq new.length i.size&&Nat.ble (off+new.length) gs.length&&deadB hpL id then some (fr,hp.set id (.box tb (setAt gs off new))) else none
    | _=>none
   | _=>none
  | none=>none
 | ⟨some d,.makeMap t none,ty,pos,after,none⟩=>match Γ t with
  | some ⟨.map kt et,_,_,_⟩=>match Γ et with
   | some ⟨.pointer _,_,_,_⟩=>bif Nat.blt d N then some ((d,.map hp.length) :: fr,hp++[.pm []]) else none
   | _=>none
  | _=>none
 | ⟨none,.insert t x y z,ty,pos,after,none⟩=>match Γ t with
  | some ⟨.map kt et,_,_,_⟩=>match Γ kt with
   | some ⟨.int k,_,_,_⟩=>match (fr.only (Oper.looksAt full ⟨none,.insert t x y z,ty,pos,after,none⟩)).ev x with
    | some (.map id)=>match hp[id]? with
     | some (.pm es)=>match (fr.only (Oper.looksAt full ⟨none,.insert t x y z,ty,pos,after,none⟩)).ev y with
      | some (.d (.v (.int k' n)))=>((fr.only (Oper.looksAt full ⟨none,.insert t x y z,ty,pos,after,none⟩)).ev z).bind fun gv=>(unI k es).bind fun m=>
        bif decide (k'=k)&&gv.one&&(m.all fun e=>!(e.1==n))&&deadB hpL id then some (fr,hp.set id (.pm (pmE k (insK n gv m)))) else none
      | _=>none
     | _=>none
    | _=>none
   | _=>none
  | _=>none
 | ⟨some d,.lookup t x y false,ty,pos,after,none⟩=>match Γ t with
  | some ⟨.map kt et,_,_,_⟩=>match Γ kt with
   | some ⟨.int k,_,_,_⟩=>match (fr.only (Oper.looksAt full ⟨some d,.lookup t x y false,ty,pos,after,none⟩)).ev x with
    | some (.map id)=>match hp[id]? with
     | some (.pm es)=>match (fr.only (Oper.looksAt full ⟨some d,.lookup t x y false,ty,pos,after,none⟩)).ev y with
      | some (.d (.v (.int k' n)))=>(unI k es).bind fun m=>match m.find? (fun e=>n==e.1) with
       | some (n',gv)=>bif Nat.blt d N&&decide (k'=k)&&decide (n'=n) then some ((d,gv) :: fr,hp) else none
       | none=>none
      | _=>none
     | _=>none
    | _=>none
   | _=>none
  | _=>none
 | _=>none
def anyR(Γ:TypeId→Option TI)(N:Nat)(hpL:List Ob)(ll hl:List Nat)(bx:List (Nat×List Nat))(ops:Array Oper):Nat→Array Bool→Fr→List Ob→Option (List (Fr×List Ob))
 | 0,listed,fr,hp=>match Region.ready .any ops listed with
  | []=>some [(fr,hp)]
  | _ :: _=>none
 | fuel+1,listed,fr,hp=>match Region.ready .any ops listed with
  | []=>some [(fr,hp)]
  | i0 :: r=>match (i0 :: r).find? fun i=>!(inL hl i) with
   | some i=>match ops[i]? with
    | none=>none
    | some o=>bif Region.free .any ops listed i then match xstep Γ N hpL ll bx ops i fr o with
     | some fr'=>anyR Γ N hpL ll hl bx ops fuel (listed.setIfInBounds i true) fr' hp
     | none=>none
     else none
   | none=>ocat (fun i=>match ops[i]? with
     | none=>none
     | some o=>match hst Γ N hpL ops fr hp o with
      | some s=>anyR Γ N hpL ll hl bx ops fuel (listed.setIfInBounds i true) s.1 s.2
      | none=>none) (i0 :: r)
section
variable{P:Program}{Γ:TypeId→Option TI}{F N:Nat}{Q:GPost}{fr fr':Fr}{hp hp' hpL:List Ob}{ks:List Kt}{ll hl:List Nat}{bx:List (Nat×List Nat)}
variable{ops:Array Oper}
def LeafOk(n0:Nat)(s:Fr×List Ob)(p:List Nat×List Nat)(fr0:Fr)(hp0:List Ob):Prop:=
 prmB p.1 p.2 n0 s.2.length=true∧prmObs p.1 p.2 s.2=hp0∧fr0.map (fun e=>(Fr.get s.1 e.1).map (G.ren (pf p.1)))=fr0.map fun e=>some e.2
def leafN(n0:Nat)(T:List Nat)(s:Fr×List Ob)(p:List Nat×List Nat):Bool×List (Option G)×List Ob:=(prmB p.1 p.2 n0 s.2.length,T.map fun t=>(Fr.get s.1 t).map (G.ren (pf p.1)),prmObs p.1 p.2 s.2)
def leavesN(n0:Nat)(T:List Nat):List (Fr×List Ob)→List (List Nat×List Nat)→List (Bool×List (Option G)×List Ob)
 | [],_=>[]
 | s :: ss,p :: ps=>leafN n0 T s p :: leavesN n0 T ss ps
 | _ :: _,[]=>[(false,[],[])]
variable{fop:Operand}{args:Array Operand}{ts:Array TypeId}{f:FuncId}{g1 g2 gs gs':List G}
theorem EC.lendRow{te:TypeId}{sz n:Nat}{ds:List D}(h:EC P f (gs.map (G.lend hp)) [] fun g hp'=>g=.sl 0 n∧hp'=[.row te sz n ds])(hbl:G.belAll 0 (gs.map (G.lend hp))=true)(hpl:∀ d∈ds,∃ v,d=.v v) :
  EC P f gs hp fun g hp'=>g=.sl hp.length n∧hp'=hp++[.row te sz n ds]:=by
 intro Z w M vs hrel hsz hvs
 let Z0:Env:=⟨fun b=>(own hp M b∨Z.z b)∧¬ ((lentB hp M gs b)∧own hp M b),fun b=>ownZ Z hp M b∧¬ ((lentB hp M gs b)∧own hp M b),fun b h=>⟨h.1.imp id (Z.hv b),h.2⟩,fun w'=>Z.x w',fun w1 w2 hk hx=>Z.st w1 w2 (fun b hb=>hk b ⟨.inr hb,fun ⟨_,h⟩=>hrel.apart b h hb⟩) hx,Z.ax⟩
 have hO0:∀ b,ownZ Z0 [] ⟨[],M.h⟩ b→ownZ Z hp M b:=fun b hb=>by
  rcases hb with h1 | hb
  ·exact absurd h1 Kob
  ·exact hb.1
 have h0:RelH Z0 [] ⟨[],M.h⟩ w:=⟨rfl,fun i o m h=>by simp at h,fun b h=>absurd h Kob,fun b hb=>by
  rcases hb.1 with h | h
  ·exact hrel.block_lt h
  ·exact hrel.old b h,hrel.amb,fun i j oi oj b c c' h=>by simp at h,⟨fun x hx=>⟨(hrel.bags.tgs x hx).1,fun _=>Knz⟩,fun i j al al' ar ar' lt lt' h=>by simp at h,fun i al ar lt h=>by simp at h,hrel.bags.hds⟩⟩
 have hst:Stp w (ownZ Z hp M) w (ownZ Z0 [] ⟨[],M.h⟩):=.still (fun b _ hb=>hO0 b hb) rfl (fun g=>g)
 have key:∀ (j:Nat) (g:G) (v:Value),gs[j]?=some g→vs[j]?=some v→(g.lend hp).bel 0=true→VR w (ownZ Z0 [] ⟨[],M.h⟩) ⟨[],M.h⟩ (g.lend hp) v:=fun j g v hg hv hb=>by
  have h1:=hvs j g v hg hv
  by_cases hsl:∃ id n,g=.sl id n∧∃ t sz m ds,hp[id]?=some (.row t sz m ds)
  ·obtain⟨id,n,rfl,t,sz,m,ds,ho⟩:=hsl
   have e:(G.sl id n).lend hp=.d (.ro n ds):=by simp[G.lend,ho]
   rw[e]
   cases h1 with
   | slnil hM=>
    have:=hrel.obj id _ _ ho hM
    obtain⟨rfl,_⟩:=this
    exact .d .nil
   | sl hM hn hm=>
    rename_i b c
    obtain⟨_,cs,hblk,hcs,hnc,hcm,hdata⟩:=hrel.obj id _ _ ho hM
    have hown:own hp M b:=.inl ⟨id,_,c,ho,rfl,hM⟩
    have hcell:∀ j d,ds[j]?=some d→w.cell? ⟨b,0+j,none⟩=some (cs.getD j undef):=fun j d hd=>by
     obtain⟨u,e1,_⟩:=hdata j d hd
     rw[Nat.zero_add,cell_of_row w b j cs _ _ hblk]
     simp[e1]
    refine .d (.ro n ds b 0 c (fun j=>cs.getD j undef) (hrel.block_lt hown) ?_ hn hm hcell (fun j d hd=>?_))
    ·refine fun _ _ hbad=>absurd hbad ?_
     rintro(h1 | hb)
     ·exact Kob h1
     ·exact hb.2 ⟨⟨j,id,n,c,hg,hM⟩,hown⟩
    ·obtain⟨u,e1,e2⟩:=hdata j d hd
     simpa [e1] using e2.step hst
  ·have e:g.lend hp=g:=by
    cases g<;>try rfl
    rename_i id n
    simp only[G.lend]
    split
    ·rename_i t sz m ds ho
     exact absurd ⟨id,n,rfl,t,sz,m,ds,ho⟩ hsl
    ·rfl
   rw[e] at hb ⊢
   exact h1.move (k:=0) hst (fun i hi=>by omega) hb
 refine(h Z0 w ⟨[],M.h⟩ vs h0 (by simpa using hsz) (fun j g v hg hv=>?_)).mono ?_
 ·rw[gMp] at hg
  obtain⟨g0,hg0,rfl⟩:=oMs.1 hg
  exact key j g0 v hg0 hv (G.belAll_spec.1 hbl j _ (by rw[gMp,hg0];rfl))
 ·rintro e w' ⟨v,g,hp',M',rfl,⟨rfl,rfl⟩,h1,h2,h3,h4⟩
  have hkeep:∀ b,b<w.heap.size→w'.heap[b]?=w.heap[b]?:=fun b hb=>h3.keep b hb Kob
  have hs:Stp w (own hp M) w' (own hp M):=.mk' h3.size (fun b hb _=>hkeep b hb) (fun _ _ h=>h) h3.os h3.tape h3.output rfl (fun g=>g) fun x hx _=>hkeep _ (hrel.bags.tgs x hx).1
  have hl1:M'.l.length=1:=h1.len
  obtain⟨x,hx⟩:∃ x,M'.l=[x]:=by
   match hM:M'.l,hl1 with
   | [x],_=>exact⟨x,rfl⟩
  have hx0:M'.l[0]?=some x:=by rw[hx];rfl
  have hrow:=h1.obj 0 _ x rfl hx0
  have hnew:∀ b c,x=some (b,c)→w.heap.size≤b:=fun b c e=>by
   subst e
   rcases Nat.lt_or_ge b w.heap.size with hb | hb
   ·exact absurd (h3.own b hb (.inl ⟨0,_,c,rfl,rfl,hx0⟩)) Kob
   ·exact hb
  have hMe:∀ i,i<M.l.length→(M.app [x]).l[i]?=M.l[i]?:=fun i hi=>gAl hi
  have hob:∀ b,obOwn (hp++[.row te sz n ds]) (M.app [x]) b→obOwn hp M b∨∃ c,x=some (b,c):=by
   rintro b ⟨i,o,c,e1,e2,e3⟩
   rcases Kqj e3 with⟨hi,e4⟩ | ⟨_,e4⟩
   ·rw[gAl (by rw[←hrel.len];exact hi)] at e1
    exact .inl ⟨i,o,c,e1,e2,e4⟩
   ·exact .inr ⟨c,e4⟩
  have hown:∀ b,b<w.heap.size→own (hp++[.row te sz n ds]) (M.app [x]) b→own hp M b:=by
   rintro b hb (hb1 | ⟨hg,y,hy,e⟩)
   ·rcases hob b hb1 with h | ⟨c,e⟩
    ·exact .inl h
    ·have:=hnew b c e;omega
   ·exact .inr ⟨hg.of (Kof rfl),y,hy,e⟩
  have hs2:Stp w (own hp M) w' (own (hp++[.row te sz n ds]) (M.app [x])):=.mk' h3.size (fun b hb _=>hkeep b hb) hown h3.os h3.tape h3.output rfl (fun g=>g.of (Kof rfl)) fun x hx _=>hkeep _ (hrel.bags.tgs x hx).1
  have hplain:∀ (d:D) (u:Value) (w1 w2:World) (O1 O2:Ow),d∈ds→VD w1 O1 d u→VD w2 O2 d u:=fun d u w1 w2 O1 O2 hd hv=>by
   obtain⟨y,rfl⟩:=hpl d hd
   cases hv with
   | v _ h=>exact .v _ h
  have hlt:∀ b c,x=some (b,c)→b<w'.heap.size:=fun b c e=>by
   subst e
   obtain⟨_,cs,e1,_⟩:=hrow
   exact(aEs.1 e1).1
  have hobx:∀ y:Tg,some y∈M.h→obOwn (hp++[.row te sz n ds]) (M.app [x]) y.b→obOwn hp M y.b:=fun y hy hb=>by
   rcases hob _ hb with h | ⟨c,e⟩
   ·exact h
   ·have:=hnew _ c e;have:=(hrel.bags.tgs y hy).1;omega
  refine⟨v,.sl hp.length n,_,M.app [x],rfl,⟨rfl,rfl⟩,⟨by simp[hrel.len],fun i o m ho hm=>?_,fun b hb hz=>?_,fun b hb=>nLl (hrel.old b hb) h3.size,hrel.amb_stp hs,fun i j oi oj b c c' hi hj li lj mi mj=>?_,⟨fun y hy=>⟨nLl (hrel.bags.tgs y hy).1 h3.size,fun hz hb=>(hrel.bags.tgs y hy).2 hz (hobx y hy hb)⟩,fun i j al al' ar ar' lt lt' hi hj=>hrel.bags.one i j al al' ar ar' lt lt' (Kof rfl i al ar lt hi) (Kof rfl j al' ar' lt' hj),fun i al ar lt hi t y hy hb=>hrel.bags.lnd i al ar lt (Kof rfl i al ar lt hi) t y hy (hobx y (mOg hy) hb),hrel.bags.hds⟩⟩,?_,hs2,⟨by simp[hrel.len],fun i hi=>hMe i (by rw[hrel.len];exact hi)⟩⟩
  ·rcases Kqj ho with⟨hi,e3⟩ | ⟨hi,rfl⟩
   ·rw[hMe i (by rw[hrel.len];exact hi)] at hm
    have:=hrel.obj i o m e3 hm
    refine this.move (k:=M.l.length) (Koi Z hs2) hMe this.bel (fun b c e hl=>?_) fun _ _ _ _=>⟨rfl,fun x hx _=>hkeep _ (hrel.bags.tgs x hx).1⟩
    subst e
    exact hkeep b (hrel.block_ob ⟨i,o,c,e3,hl,hm⟩)
   ·subst hi
    rw[←hrel.len] at hm
    have:m=x:=by
     rcases Kqj hm with⟨hi,_⟩ | ⟨_,h⟩
     ·omega
     ·exact h.symm
    subst this
    match m,hrow with
    | none,hrow=>exact hrow
    | some (b,c),⟨e0,cs,e1,e2,e3,e4,e5⟩=>exact⟨e0,cs,e1,e2,e3,e4,fun j d hd=>let ⟨u,f1,f2⟩:=e5 j d hd;⟨u,f1,hplain d u _ _ _ _ (mOg hd) f2⟩⟩
  ·rcases hb with hb1 | ⟨hg,y,hy,e⟩
   ·rcases hob b hb1 with h | ⟨c,e⟩
    ·exact hrel.apart b (.inl h) hz
    ·have:=hnew b c e;have:=hrel.old b hz;omega
   ·exact hrel.apart b (.inr ⟨hg.of (Kof rfl),y,hy,e⟩) hz
  ·have old:∀ (i:Nat) (o:Ob) (c:Nat),hp[i]?=some o→o.live=true→M.l[i]?=some (some (b,c))→b<w.heap.size:=fun i o c e1 e2 e3=>hrel.block_lt (.inl ⟨i,o,c,e1,e2,e3⟩)
   rcases Kqj mi with⟨hi1,hi2⟩ | ⟨hi1,hi2⟩
   ·rw[gAl (by rw[←hrel.len];exact hi1)] at hi
    rcases Kqj mj with⟨hj1,hj2⟩ | ⟨hj1,hj2⟩
    ·rw[gAl (by rw[←hrel.len];exact hj1)] at hj
     exact hrel.inj i j oi oj b c c' hi hj li lj hi2 hj2
    ·have:=old i oi c hi li hi2;have:=hnew b c' hj2;omega
   ·rcases Kqj mj with⟨hj1,hj2⟩ | ⟨hj1,hj2⟩
    ·rw[gAl (by rw[←hrel.len];exact hj1)] at hj
     have:=old j oj c' hj lj hj2;have:=hnew b c hi2;omega
    ·omega
  ·cases h2 with
   | sl hM hn hm=>
    rw[hx] at hM
    simp at hM
    refine .sl (b:=_) (c:=_) ?_ hn hm
    rw[←hrel.len]
    simp[hM]
   | slnil hM=>
    rw[hx] at hM
    simp at hM
    refine .slnil ?_
    rw[←hrel.len]
    simp[hM]
def D.isV:D→Bool
 | .v _=>true
 | _=>false
theorem Kli{α:Type}{enc:α→List D}(h:∀ x,(enc x).all D.isV=true)(l:List α):∀ d∈l.flatMap enc,∃ v,d=.v v:=fun d hd=>by
 obtain⟨x,_,h2⟩:=List.mem_flatMap.1 hd
 have:=lAe.1 (h x) d h2
 cases d<;>first | exact⟨_,rfl⟩ | cases this
theorem Klj{rest:List Oper}{d:Tmp}{ty:TypeId}{pos:String}{after:Array Edge}{gs0:List G}{te:TypeId}{sz n:Nat}{ds:List D}(hcl:Callable P f)(hc:EC P f gs0 [] fun g hp'=>g=.sl 0 n∧hp'=[.row te sz n ds])(hpl:∀ d∈ds,∃ v,d=.v v)(hd:Nat.blt d N=true)(hF:F≤hp.length)(hf:fr.ev fop=some (.fn (.func f) g1 g2))(ha:args.toList.mapM fr.ev=some gs')(hgs:(g1++gs'++g2).map (G.lend hp)=gs0)(hb:G.belAll 0 gs0=true)
  (h:EO P F N ops rest Q ((d,.sl hp.length n) :: fr) (hp++[.row te sz n ds])):EO P F N ops (⟨some d,.call ⟨.value fop,args,ts⟩,ty,pos,after,none⟩ :: rest) Q fr hp:=by
 subst hgs
 exact Kqh hd hF hf ha hcl (EC.lendRow hc hb hpl) (by rintro _ _ ⟨rfl,rfl⟩;exact h)
end
section
variable{P:Program}{Γ:TypeId→Option TI}{F N:Nat}{Q:GPost}{fr fr':Fr}{hp hp':List Ob}{ks:List Kt}
variable{K W:Type}[BEq K][KLt K]{kv:K→Value}{ops:Array Oper}{rest:List Oper}{g:G}
variable{d:Tmp}{op:Op}{ty:TypeId}{pos:String}{after:Array Edge}{gd:Option (Nat×Bool)}
theorem Klk(hΓ:TOK P Γ){t kt et:TypeId}{i1 i2 i3:TI}{x y:Operand}{id:Nat}{st:Option (List (Value×List D)×List Nat×Nat)}{te:TypeId}{sz:Nat}{enc:W→List D}(m:List (K×Tl W))(k:K){gv:G}(h1:Γ t=some i1)(h1':i1.desc=.map kt et)(h2:Γ kt=some i2)(h3:Γ et=some i3)(hK:KeyOk i2.desc kv)
  (hx:fr.ev x=some (.map id)) (ho:hp[id]?=some (mObS kv false (eT te sz enc) m st)) (hy:fr.ev y=some (.d (.v (kv k)))) (hz:i3.zero=.slice none 0 0)
  (hg:dG false (eT te sz enc ((mGet m k).getD (1,[])))=some gv):OpP P N ⟨some d,.lookup t x y false,ty,pos,after,gd⟩ fr hp gv:=fun Z w M a hr=>by
 have hzd:DV w (ownZ Z hp M) false (eT te sz enc (1,[])) i3.zero:=by
  rw[hz]
  exact⟨_,rfl,.rt te sz 1 0 [] _ .nil ⟨none,rfl,fun _=>rfl⟩⟩
 obtain⟨u1,_⟩:=hΓ t _ h1
 rw[h1'] at u1
 obtain⟨u2,_⟩:=hΓ kt _ h2
 obtain⟨u3,inf,e1,e2,e3,e4⟩:=hΓ et _ h3
 have hvx:=hr.ev hx
 simp only[execOp,hr.ev_v hy]
 generalize a.eval x=vx at hvx
 cases hvx with
 | map hM=>
  obtain⟨m',ms,cl,hA⟩:=Kjp hr.heap ho hM
  have m1:=hA.heap
  have m4:=hA.get
  have hf:=MapKept.run_findKey (P:=P) (w:=w) u2 (hA.find hK k)
  have hc:=MapKept.run_checkKey (P:=P) (w:=w) u2 (hK.key k) ms.isEmpty 9999
  rw[←Kjo hK hA.perm hA.apart] at hg
  rw[Kjq] at hg
  cases hi:m'.findIdx? fun e=>k==e.1 with
  | none=>
   rw[hi] at hf hg
   simp only[Option.bind_none,Option.getD_none] at hf hg
   refine⟨i3.zero,?_,hzd.vr hg⟩
   simp[Instr.lookup,run_underlying u1,MapKept.run_getObj_map m1,hc,hf,zeroValue,typeInfo,e1,e4]
  | some j=>
   rw[hi] at hf hg
   have hj:j<m'.length:=(lFi.1 hi).1
   obtain⟨e,f1,f2,f3⟩:=m4 j _ (gGe hj)
   simp only[Option.bind_some,f1,List.getElem?_eq_getElem hj,Option.map_some,Option.getD_some] at hf hg
   refine⟨e.val,?_,f3.vr hg⟩
   simp[Instr.lookup,run_underlying u1,MapKept.run_getObj_map m1,hc,hf]
end
end Go.Gk
namespace Go.Gk
def hdG(k:Option Nat)(id:Nat):G:=match k with
 | some off=>.ptr id off
 | none=>.map id
def Ar.ob:Ar→Ob
 | .map _ agg es=>.map agg es none
 | .box _ ty ds=>.box ty (ds.map .d)
 | .row _ ty sz n ds=>.row ty sz n ds
theorem Ar.ob_live(a:Ar):a.ob.live=true:=by cases a<;>rfl
theorem Ar.ob_bag(a:Ar):a.ob.isBag=false:=by cases a<;>rfl
theorem ArR.ob{w:World}{O:Ow}{M M':Mp}{a:Ar}(h:ArR w O M a)(hnr:a.isRow=false):∃ x:Tg,M.h[a.t]?=some (some x)∧x.sz=0∧ObR w O M' a.ob (some (x.b,0)):=by
 cases a with
 | map t agg es=>exact let ⟨x,e1,e2,e3⟩:=h;⟨x,e1,e2,e3⟩
 | box t ty ds=>
  obtain⟨x,e1,e2,cs,e3,e4,e5⟩:=h
  refine⟨x,e1,e2,cs,e3,by simp[e4],fun j g hg=>?_⟩
  rw[gMp] at hg
  obtain⟨d,hd,rfl⟩:=oMs.1 hg
  obtain⟨v,f1,f2⟩:=e5 j d hd
  exact⟨v,f1,f2.one,.d f2⟩
 | row _ _ _ _ _=>cases hnr
theorem RelH.lend{Z:Env}{hp:List Ob}{M:Mp}{w:World}(hr:RelH Z hp M w){bg:Nat}{al:List Bool}{ar ar':List Ar}{lt:List (Nat×Nat)}{a:Ar}(hbag:hp[bg]?=some (.bag al ar lt))(hperm:ar.Perm (a :: ar'))(hnr:a.isRow=false) :
  ∃ x:Tg,M.h[a.t]?=some (some x)∧RelH Z ((hp.set bg (.bag al ar' ((a.t,hp.length) :: lt)))++[a.ob]) (M.app [some (x.b,0)]) w∧own ((hp.set bg (.bag al ar' ((a.t,hp.length) :: lt)))++[a.ob]) (M.app [some (x.b,0)])=own hp M:=by
 obtain⟨hbm,q1,q2,q3,q4,q5,q6⟩:=hr.bag_none hbag
 have hbl:bg<hp.length:=(gEs.1 hbag).1
 have hmem:a∈ar:=hperm.mem_iff.2 (mCs ..)
 obtain⟨x,hx,hxz,hxo⟩:=(q4 a hmem).1.ob (M':=M) hnr
 refine⟨x,hx,?_⟩
 have hno:¬ obOwn hp M x.b:=fun h=>let ⟨id,h1⟩:=hr.bags.lnd bg al ar lt hbag a.t x hx h;(q4 a hmem).2.1 id h1
 have hpw:(a :: ar').Pairwise (fun a a'=>a.t≠a'.t):=(hperm.pairwise_iff fun h=>Ne.symm h).1 q5
 have hcase:∀ (i:Nat) (o:Ob),((hp.set bg (.bag al ar' ((a.t,hp.length) :: lt)))++[a.ob])[i]?=some o→(i≠bg∧i<hp.length∧hp[i]?=some o)∨(i=bg∧o=.bag al ar' ((a.t,hp.length) :: lt))∨(i=hp.length∧o=a.ob):=fun i o h=>by
  by_cases hi:i<hp.length
  ·rw[gAl (by simpa using hi)] at h
   by_cases hb:bg=i
   ·subst hb;rw[gSs hbl] at h;cases h;exact .inr (.inl ⟨rfl,rfl⟩)
   ·rw[gSn hb] at h;exact .inl ⟨Ne.symm hb,hi,h⟩
  ·rw[gAr (by simpa using hi)] at h
   simp only[List.length_set] at h
   have:i - hp.length=0:=by
    have:=(gEs.1 h).1
    simp at this;omega
   rw[this] at h
   simp at h
   exact .inr (.inr ⟨by omega,h.symm⟩)
 have hMo:∀ i,i<M.l.length→(M.app [some (x.b,0)]).l[i]?=M.l[i]?:=fun i hi=>gAl hi
 have hMn:(M.app [some (x.b,0)]).l[hp.length]?=some (some (x.b,0)):=by rw[←hr.len];simp
 have hob:∀ b,obOwn ((hp.set bg (.bag al ar' ((a.t,hp.length) :: lt)))++[a.ob]) (M.app [some (x.b,0)]) b ↔ obOwn hp M b∨b=x.b:=fun b=>by
  constructor
  ·rintro⟨i,o,c,h1,h2,h3⟩
   rcases hcase i o h1 with⟨_,hi,h⟩ | ⟨rfl,rfl⟩ | ⟨rfl,rfl⟩
   ·exact .inl ⟨i,o,c,h,h2,by rw[←hMo i (by rw[hr.len];exact hi)];exact h3⟩
   ·rw[hMo _ (by rw[hr.len];exact hbl),hbm] at h3;cases h3
   ·rw[hMn] at h3;cases h3;exact .inr rfl
  ·rintro(⟨i,o,c,h1,h2,h3⟩ | rfl)
   ·have hi:i<hp.length:=(gEs.1 h1).1
    have hne:bg≠i:=fun e=>by subst e;rw[hbm] at h3;cases h3
    exact⟨i,o,c,by rw[gAl (by simpa using hi),gSn hne];exact h1,h2,by rw[hMo i (by rw[hr.len];exact hi)];exact h3⟩
   ·exact⟨hp.length,a.ob,0,by rw[gAr (by simp)];simp,a.ob_live,hMn⟩
 have hg:hasBag hp:=⟨bg,al,ar,lt,hbag⟩
 have hg':hasBag ((hp.set bg (.bag al ar' ((a.t,hp.length) :: lt)))++[a.ob]):=⟨bg,al,ar',_,by rw[gAl (by simpa using hbl),gSs hbl]⟩
 have hown:own ((hp.set bg (.bag al ar' ((a.t,hp.length) :: lt)))++[a.ob]) (M.app [some (x.b,0)])=own hp M:=Koc (fun b=>by
  constructor
  ·rintro(h | ⟨_,h⟩)
   ·rcases(hob b).1 h with h | rfl
    ·exact .inl h
    ·exact .inr ⟨hg,x,mOg hx,rfl⟩
   ·exact .inr ⟨hg,h⟩
  ·rintro(h | ⟨_,h⟩)
   ·exact .inl ((hob b).2 (.inl h))
   ·exact .inr ⟨hg',h⟩) rfl ⟨fun _=>hg,fun _=>hg'⟩
 have hownZ:ownZ Z ((hp.set bg (.bag al ar' ((a.t,hp.length) :: lt)))++[a.ob]) (M.app [some (x.b,0)])=ownZ Z hp M:=by unfold ownZ;rw[hown]
 have hbags:∀ (i:Nat) (al1:List Bool) (ar1:List Ar) (lt1:List (Nat×Nat)),((hp.set bg (.bag al ar' ((a.t,hp.length) :: lt)))++[a.ob])[i]?=some (.bag al1 ar1 lt1)→i=bg∧lt1=(a.t,hp.length) :: lt:=fun i al1 ar1 lt1 h=>by
  rcases hcase i _ h with⟨h1,_,h2⟩ | ⟨h1,h2⟩ | ⟨_,h2⟩
  ·exact absurd (hr.bags.one _ _ _ _ _ _ _ _ h2 hbag) h1
  ·cases h2;exact⟨h1,rfl⟩
  ·have:=a.ob_bag;rw[←h2] at this;cases this
 refine⟨⟨by simp[hr.len],fun i o m h1 h2=>?_,fun b hb hz=>hr.apart b (by rw[hown] at hb;exact hb) hz,hr.old,hr.amb,fun i j oi oj b c c' hi hj li lj mi mj=>?_,⟨fun y hy=>⟨(hr.bags.tgs y hy).1,fun hz h=>?_⟩,fun i j al1 al2 ar1 ar2 lt1 lt2 hi hj=>(hbags i _ _ _ hi).1.trans (hbags j _ _ _ hj).1.symm,fun i al1 ar1 lt1 hi t y hy h=>?_,hr.bags.hds⟩⟩,hown⟩
 ·rw[hownZ]
  rcases hcase i o h1 with⟨hne,hi,h⟩ | ⟨rfl,rfl⟩ | ⟨rfl,rfl⟩
  ·rw[hMo i (by rw[hr.len];exact hi)] at h2
   have:=hr.obj i o m h h2
   exact this.move (k:=M.l.length) (.refl _ _) hMo this.bel (fun _ _ _ _=>rfl) (fun _ _ _ _=>⟨rfl,fun _ _ _=>rfl⟩)
  ·rw[hMo _ (by rw[hr.len];exact hbl),hbm] at h2
   cases h2
   refine⟨q1,q2,q3,fun a1 ha1=>⟨((q4 a1 (hperm.mem_iff.2 (mCo _ ha1))).1).same rfl,fun id hm=>?_,(q4 a1 (hperm.mem_iff.2 (mCo _ ha1))).2.2⟩,(List.pairwise_cons.1 hpw).2,fun t id hm=>?_⟩
   ·rcases List.mem_cons.1 hm with e | hm
    ·exact(List.pairwise_cons.1 hpw).1 a1 ha1 (congrArg Prod.fst e).symm
    ·exact(q4 a1 (hperm.mem_iff.2 (mCo _ ha1))).2.1 id hm
   ·rcases List.mem_cons.1 hm with e | hm
    ·cases e;exact⟨x,0,hx,hxz,hMn⟩
    ·obtain⟨y,c,e1,e2,e3⟩:=q6 t id hm
     exact⟨y,c,e1,e2,(hMo id (Mp.lt e3)).trans e3⟩
  ·rw[hMn] at h2
   cases h2
   exact hxo.move (k:=M.l.length) (.refl _ _) hMo hxo.bel (fun _ _ _ _=>rfl) (fun _ _ _ e=>by have:=a.ob_bag;rw[e] at this;cases this)
 ·rcases hcase i oi hi with⟨_,hil,hi⟩ | ⟨rfl,rfl⟩ | ⟨rfl,rfl⟩
  ·rw[hMo i (by rw[hr.len];exact hil)] at mi
   rcases hcase j oj hj with⟨_,hjl,hj⟩ | ⟨rfl,rfl⟩ | ⟨rfl,rfl⟩
   ·rw[hMo j (by rw[hr.len];exact hjl)] at mj
    exact hr.inj i j oi oj b c c' hi hj li lj mi mj
   ·rw[hMo _ (by rw[hr.len];exact hbl),hbm] at mj;cases mj
   ·rw[hMn] at mj;cases mj;exact absurd ⟨i,oi,c,hi,li,mi⟩ hno
  ·rw[hMo _ (by rw[hr.len];exact hbl),hbm] at mi;cases mi
  ·rw[hMn] at mi
   cases mi
   rcases hcase j oj hj with⟨_,hjl,hj⟩ | ⟨rfl,rfl⟩ | ⟨rfl,rfl⟩
   ·rw[hMo j (by rw[hr.len];exact hjl)] at mj
    exact absurd ⟨j,oj,c',hj,lj,mj⟩ hno
   ·rw[hMo _ (by rw[hr.len];exact hbl),hbm] at mj;cases mj
   ·rfl
 ·rcases(hob _).1 h with h | e
  ·exact(hr.bags.tgs y hy).2 hz h
  ·obtain⟨t,ht⟩:=List.getElem?_of_mem hy
   have ht':M.h[t]?=some (some y):=ht
   have:=hr.bags.hds a.t t x y hx ht' hxz e
   subst this
   rw[hx] at ht'
   cases ht'
   omega
 ·obtain⟨_,rfl⟩:=hbags i _ _ _ hi
  have hy':M.h[t]?=some (some y):=hy
  rcases(hob _).1 h with h | e
  ·obtain⟨id,h1⟩:=hr.bags.lnd bg al ar lt hbag t y hy' h
   exact⟨id,mCo _ h1⟩
  ·have:=hr.bags.hds a.t t x y hx hy' hxz e
   subst this
   exact⟨hp.length,mCs ..⟩
def Ar.of:Ar→Ob→Prop
 | .map _ agg es,.map agg' es' _=>agg'=agg∧es'=es
 | .box _ ty ds,.box ty' gs=>ty'=ty∧gs=ds.map .d
 | _,_=>False
theorem ArR.of_ob{w:World}{O:Ow}{M:Mp}{a:Ar}{o:Ob}{x:Tg}{c:Nat}(ha:a.of o)(h:ObR w O M o (some (x.b,c)))(hx:M.h[a.t]?=some (some x))(hz:x.sz=0):ArR w O M a:=by
 cases a with
 | map t agg es=>
  cases o with
  | map agg' es' st=>
   obtain⟨rfl,rfl⟩:=ha
   obtain⟨ms,cl,es',h1,p1,p2,p3,h2⟩:=h
   exact⟨x,hx,hz,ms,cl,es',h1,p1,p2,(fun raw e=>by cases e),h2⟩
  | _=>exact ha.elim
 | box t ty ds=>
  cases o with
  | box ty' gs=>
   obtain⟨rfl,rfl⟩:=ha
   obtain⟨cs,h1,h2,h3⟩:=h
   refine⟨x,hx,hz,cs,h1,by simpa using h2,fun j d hd=>?_⟩
   obtain⟨v,e1,e2,e3⟩:=h3 j (.d d) (by rw[gMp,hd];rfl)
   refine⟨v,e1,?_⟩
   cases e3 with
   | d h=>exact h
  | _=>exact ha.elim
 | row _ _ _ _ _=>cases o<;>exact ha.elim
theorem RelH.back{Z:Env}{hp:List Ob}{M:Mp}{w:World}(hr:RelH Z hp M w){bg id:Nat}{al:List Bool}{ar:List Ar}{a:Ar}{o:Ob}(hbag:hp[bg]?=some (.bag al ar [(a.t,id)]))(ho:hp[id]?=some o)(hl:o.live=true)(hoa:a.of o) :
  RelH Z ((hp.set id .dead).set bg (.bag al (a :: ar) [])) M w∧own ((hp.set id .dead).set bg (.bag al (a :: ar) [])) M=own hp M:=by
 obtain⟨hbm,q1,q2,q3,q4,q5,q6⟩:=hr.bag_none hbag
 have hbl:bg<hp.length:=(gEs.1 hbag).1
 have hid:id<hp.length:=(gEs.1 ho).1
 obtain⟨x,c0,hx,hxz,hMx⟩:=q6 a.t id (mCs ..)
 have hcase:∀ (i:Nat) (o1:Ob),((hp.set id .dead).set bg (.bag al (a :: ar) []))[i]?=some o1→(i≠bg∧i≠id∧hp[i]?=some o1)∨(i=bg∧o1=.bag al (a :: ar) [])∨(i≠bg∧o1=.dead):=fun i o1 h=>by
  by_cases hb:bg=i
  ·subst hb;rw[gSs (by simpa using hbl)] at h;cases h;exact .inr (.inl ⟨rfl,rfl⟩)
  ·rw[gSn hb] at h
   by_cases hi:id=i
   ·subst hi;rw[gSs hid] at h;cases h;exact .inr (.inr ⟨Ne.symm hb,rfl⟩)
   ·rw[gSn hi] at h;exact .inl ⟨Ne.symm hb,Ne.symm hi,h⟩
 have hob:∀ b,obOwn ((hp.set id .dead).set bg (.bag al (a :: ar) [])) M b→obOwn hp M b∧b≠x.b:=fun b h=>by
  obtain⟨i,o1,c,h1,h2,h3⟩:=h
  rcases hcase i o1 h1 with⟨_,hi,h⟩ | ⟨rfl,rfl⟩ | ⟨_,rfl⟩
  ·exact⟨⟨i,o1,c,h,h2,h3⟩,fun e=>by subst e;exact hi (hr.inj i id o1 o _ c c0 h ho h2 hl h3 hMx)⟩
  ·rw[hbm] at h3;cases h3
  ·cases h2
 have hob2:∀ b,obOwn hp M b→obOwn ((hp.set id .dead).set bg (.bag al (a :: ar) [])) M b∨b=x.b:=fun b h=>by
  obtain⟨i,o1,c,h1,h2,h3⟩:=h
  have hne:bg≠i:=fun e=>by subst e;rw[hbm] at h3;cases h3
  by_cases hi:id=i
  ·subst hi;rw[hMx] at h3;cases h3;exact .inr rfl
  ·exact .inl ⟨i,o1,c,by rw[gSn hne,gSn hi];exact h1,h2,h3⟩
 have hg:hasBag hp:=⟨bg,al,ar,_,hbag⟩
 have hg':hasBag ((hp.set id .dead).set bg (.bag al (a :: ar) [])):=⟨bg,al,_,_,gSs (by simpa using hbl)⟩
 have hown:own ((hp.set id .dead).set bg (.bag al (a :: ar) [])) M=own hp M:=Koc (fun b=>by
  constructor
  ·rintro(h | ⟨_,h⟩)
   ·exact .inl (hob b h).1
   ·exact .inr ⟨hg,h⟩
  ·rintro(h | ⟨_,h⟩)
   ·rcases hob2 b h with h | rfl
    ·exact .inl h
    ·exact .inr ⟨hg',x,mOg hx,rfl⟩
   ·exact .inr ⟨hg',h⟩) rfl ⟨fun _=>hg,fun _=>hg'⟩
 have hownZ:ownZ Z ((hp.set id .dead).set bg (.bag al (a :: ar) [])) M=ownZ Z hp M:=by unfold ownZ;rw[hown]
 have hbags:∀ (i:Nat) (al1:List Bool) (ar1:List Ar) (lt1:List (Nat×Nat)),((hp.set id .dead).set bg (.bag al (a :: ar) []))[i]?=some (.bag al1 ar1 lt1)→i=bg:=fun i al1 ar1 lt1 h=>by
  rcases hcase i _ h with⟨h1,_,h2⟩ | ⟨h1,h2⟩ | ⟨_,h2⟩
  ·exact absurd (hr.bags.one _ _ _ _ _ _ _ _ h2 hbag) h1
  ·exact h1
  ·cases h2
 refine⟨⟨by simp[hr.len],fun i o1 m h1 h2=>?_,fun b hb hz=>hr.apart b (by rw[hown] at hb;exact hb) hz,hr.old,hr.amb,fun i j oi oj b c c' hi hj li lj mi mj=>?_,⟨fun y hy=>⟨(hr.bags.tgs y hy).1,fun hz h=>(hr.bags.tgs y hy).2 hz (hob _ h).1⟩,fun i j al1 al2 ar1 ar2 lt1 lt2 hi hj=>(hbags i _ _ _ hi).trans (hbags j _ _ _ hj).symm,fun i al1 ar1 lt1 hi t y hy h=>?_,hr.bags.hds⟩⟩,hown⟩
 ·rw[hownZ]
  rcases hcase i o1 h1 with⟨_,hi,h⟩ | ⟨rfl,rfl⟩ | ⟨_,rfl⟩
  ·exact hr.obj i o1 m h h2
  ·rw[hbm] at h2
   cases h2
   refine⟨q1,q2,q3,fun a1 ha1=>⟨?_,fun id hm=>by simp at hm,fun hrow=>?_⟩,List.pairwise_cons.2 ⟨fun a1 ha1 e=>(q4 a1 ha1).2.1 id (by rw[e];exact mCs ..),q5⟩,fun t id hm=>by simp at hm⟩
   rotate_left
   ·rcases List.mem_cons.1 ha1 with rfl | ha1
    ·cases a1<;>first | (cases hrow;done) | (cases o<;>exact hoa.elim)
    ·exact(q4 a1 ha1).2.2 hrow
   rcases List.mem_cons.1 ha1 with rfl | ha1
   ·exact ArR.of_ob hoa (hr.obj id o _ ho hMx) hx hxz
   ·exact(q4 a1 ha1).1
  ·cases m<;>trivial
 ·have key:∀ (i:Nat) (o1:Ob) (c:Nat),((hp.set id .dead).set bg (.bag al (a :: ar) []))[i]?=some o1→o1.live=true→M.l[i]?=some (some (b,c))→hp[i]?=some o1:=fun i o1 c e1 e2 e3=>by
   rcases hcase i o1 e1 with⟨_,_,h⟩ | ⟨rfl,rfl⟩ | ⟨_,rfl⟩
   ·exact h
   ·rw[hbm] at e3;cases e3
   ·cases e2
  exact hr.inj i j oi oj b c c' (key i oi c hi li mi) (key j oj c' hj lj mj) li lj mi mj
 ·exfalso
  obtain⟨h1,h2⟩:=hob _ h
  obtain⟨id',h3⟩:=hr.bags.lnd bg al ar _ hbag t y hy h1
  simp at h3
  obtain⟨rfl,rfl⟩:=h3
  rw[hx] at hy
  cases hy
  exact h2 rfl
section
variable{P:Program}{Γ:TypeId→Option TI}{F N:Nat}{Q:GPost}{fr fr':Fr}{hp hp':List Ob}{ks:List Kt}
variable{ops:Array Oper}{rest:List Oper}{g:G}{α:Type}{enc:α→List D}
def AllHd(fr:Fr)(id:Nat):List (Nat×Option Nat)→Prop
 | []=>True
 | e :: L=>fr.get e.1=some (hdG e.2 id)∧AllHd fr id L
def hdL:List (Nat×Option Nat)→Nat→Fr
 | [],_=>[]
 | e :: L,h=>(e.1,.d (.hd e.2 h)) :: hdL L h
theorem AllHd.at{fr:Fr}{id:Nat}:∀ {L:List (Nat×Option Nat)},AllHd fr id L→∀ {t:Nat} {k:Option Nat},(t,k)∈L→fr.get t=some (hdG k id)
 | e :: L,h,t,k,hm=>by
  rcases List.mem_cons.1 hm with rfl | hm
  ·exact h.1
  exact AllHd.at h.2 hm
end
end Go.Gk
namespace Go.Gk
def hGet{α:Type}(l:List (Nat×α)):Nat→Option α
 | 0=>none
 | t+1=>(l.find? fun e=>t==e.1).map (·.2)
def hSet{α:Type}(l:List (Nat×α))(h:Nat)(x:α):List (Nat×α):=match h with
 | 0=>l
 | t+1=>match l.findIdx? (fun e=>t==e.1) with
  | some i=>l.set i (t,x)
  | none=>l
def hDel{α:Type}(l:List (Nat×α))(h:Nat):List (Nat×α):=match h with
 | 0=>l
 | t+1=>match l.findIdx? (fun e=>t==e.1) with
  | some i=>l.eraseIdx i
  | none=>l
abbrev arG{α:Type}(f:Nat→α→Ar)(l:List (Nat×α)):List Ar:=l.map fun e=>f e.1 e.2
abbrev fM{K V:Type}(kv:K→Value)(agg:Bool)(enc:V→List D)(t:Nat)(m:List (K×V)):Ar:=.map t agg (m.map fun e=>(kv e.1,enc e.2))
abbrev fB{X:Type}(ty:TypeId)(enc:X→List D)(t:Nat)(x:X):Ar:=.box t ty (enc x)
def ArU(ar:List Ar)(h:Nat)(a a':Ar)(arn:List Ar):Prop:=h=a.t+1∧a'.t=a.t∧∃ ar',ar.Perm (a :: ar')∧arn.Perm (a' :: ar')
def ArD(ar:List Ar)(h:Nat)(a:Ar)(ar':List Ar):Prop:=h=a.t+1∧ar.Perm (a :: ar')
theorem ArU.l{ar arn:List Ar}{h:Nat}{a a':Ar}(r:List Ar)(hu:ArU ar h a a' arn):ArU (ar++r) h a a' (arn++r):=
 let ⟨h1,h2,ar',h3,h4⟩:=hu;⟨h1,h2,ar'++r,h3.append_right r,h4.append_right r⟩
theorem ArU.r{ar arn:List Ar}{h:Nat}{a a':Ar}(l:List Ar)(hu:ArU ar h a a' arn):ArU (l++ar) h a a' (l++arn):=
 let ⟨h1,h2,ar',h3,h4⟩:=hu;⟨h1,h2,l++ar',(h3.append_left l).trans List.perm_middle,(h4.append_left l).trans List.perm_middle⟩
theorem ArD.l{ar ar':List Ar}{h:Nat}{a:Ar}(r:List Ar)(hu:ArD ar h a ar'):ArD (ar++r) h a (ar'++r):=⟨hu.1,hu.2.append_right r⟩
theorem ArD.r{ar ar':List Ar}{h:Nat}{a:Ar}(l:List Ar)(hu:ArD ar h a ar'):ArD (l++ar) h a (l++ar'):=⟨hu.1,(hu.2.append_left l).trans List.perm_middle⟩
abbrev eH(kd:Option Nat)(h:Nat):List D:=[.hd kd h]
def ZDv(agg:Bool)(ds:List D)(v:Value):Prop:=∀ w O,DV w O agg ds v
theorem G.Le.hdN{kd:Option Nat}:G.Le (.d (.v (hval kd none))) (.d (.hd kd 0)):=fun w O M v hv=>by
 rw[vr_v hv]
 exact .d (.hd _ _ _ rfl)
section
variable{P:Program}{Γ:TypeId→Option TI}{F N:Nat}{Q:GPost}{fr fr':Fr}{hp hp':List Ob}{ks:List Kt}
variable{ops:Array Oper}{rest:List Oper}{g:G}
variable{d:Tmp}{op:Op}{ty t':TypeId}{pos:String}{after:Array Edge}{gd:Option (Nat×Bool)}
variable{K V:Type}[BEq K][KLt K]{kv:K→Value}{agg:Bool}{enc:V→List D}
end
end Go.Gk
namespace Go.Gk
def rangeW{α σ:Type}(f:α→σ→Option σ)(m:List α)(s:σ)(Q:σ→Prop):Prop:=∀ m':List α,m'.Perm m→∃ r,rangeL f m' s=some r∧Q r
def okW{α:Type}(o:Option α)(Q:α→Prop):Prop:=∃ r,o=some r∧Q r
def loopW{σ ρ:Type}(G:σ→(LS σ ρ→Prop)→Prop):Nat→σ→(ρ→Prop)→Prop
 | 0,_,_=>False
 | k+1,s,Q=>G s fun x=>match x with
  | .go s'=>loopW G k s' Q
  | .out r=>Q r
noncomputable def loopD {σ ρ:Type} (G:σ→(LS σ ρ→Prop)→Prop) (k:Nat) (s:σ):Option ρ:=
 open Classical in if h:∃ r,loopW G k s (fun r'=>r'=r) then some (Classical.choose h) else none
structure WOk{σ ρ:Type}(G:σ→(LS σ ρ→Prop)→Prop):Prop where
 mono:∀ s (C D:LS σ ρ→Prop),(∀ x,C x→D x)→G s C→G s D
 both:∀ s (C D:LS σ ρ→Prop),G s C→G s D→∃ x,C x∧D x
section
variable{P:Program}{F N:Nat}{Q:GPost}{fr fr':Fr}{hp hp':List Ob}{ks:List Kt}
variable{K V:Type}[BEq K][KLt K]{kv:K→Value}{agg:Bool}{enc:V→List D}
theorem Kll{σ:Type}{c:Code}{f:K×V→σ→Option σ}{s0:σ}{C:σ→Prop}{m m':List (K×V)}{bs:List Nat}(h:rangeW f m s0 C)(hpm:m'.Perm m)(hl:bs.length=m'.length)(hn:bs.Nodup)
  (st:σ→Fr) (ob:List Nat→σ→List Ob) (hm:MidP F (st s0) (ob [] s0) fr hp)
  (round:∀ (seen:List Nat) (s:σ),((∀ b∈bs,b∈seen)→C s)→(∀ (j:Nat) (y:K×V) (b:Nat),m'[j]?=some y→bs[j]?=some b→b ∉ seen→∃ s',f y s=some s')→
   St.holds P F N Q (.code c (.mid (fun fr' hp'=>∃ (j:Nat) (y:K×V) (b:Nat) (s':σ),m'[j]?=some y∧bs[j]?=some b∧b ∉ seen∧f y s=some s'∧MidP F (st s') (ob (seen++[b]) s') fr' hp') :: ks)) (st s) (ob seen s)) :
  St.holds P F N Q (.code (.loop c) ks) fr hp:=by
 have hz:(m'.zip bs).map (·.2)=bs:=List.map_snd_zip (by omega)
 have hz1:(m'.zip bs).map (·.1)=m':=List.map_fst_zip (by omega)
 refine Kdr hm ?_
 refine Kox (fun n fr hp=>∃ seen s,n=(remL (m'.zip bs) seen).length∧(∀ l,l.Perm (remL (m'.zip bs) seen)→∃ r,rangeL f l s=some r∧C r)∧fr=st s∧hp=ob seen s) _ ⟨[],s0,rfl,fun l hl'=>?_,rfl,rfl⟩ ?_
 ·refine h l (hl'.trans ?_)
  have:remL (m'.zip bs) []=m':=by
   unfold remL
   rw[List.filter_eq_self.2 fun e _=>by simp,hz1]
  rw[this]
  exact hpm
 rintro n fr hp ⟨seen,s,rfl,hI,rfl,rfl⟩
 have hstep:∀ (j:Nat) (y:K×V) (b:Nat),m'[j]?=some y→bs[j]?=some b→b ∉ seen→∃ s',f y s=some s'∧(∀ l,l.Perm (remL (m'.zip bs) (seen++[b]))→∃ r,rangeL f l s'=some r∧C r)∧(remL (m'.zip bs) (seen++[b])).length<(remL (m'.zip bs) seen).length:=fun j y b hj hb hns=>by
  have hp:=Kjy hns (l:=m'.zip bs) (j:=j) (by rw[List.getElem?_zip_eq_some];exact⟨hj,hb⟩) (by rw[hz];exact hn)
  obtain⟨r1,h1,_⟩:=hI _ hp.symm
  simp only[rangeL] at h1
  cases hs:f y s with
  | none=>rw[hs] at h1;cases h1
  | some s'=>
   refine⟨s',rfl,fun l hl'=>?_,by have:=hp.length_eq;simp at this;omega⟩
   have h2:=hI (y :: l) ((hl'.cons y).trans hp.symm)
   simp only[rangeL,hs] at h2
   exact h2
 refine Koo (round seen s (fun hd=>?_) fun j y b hj hb hns=>let ⟨s',h1,_⟩:=hstep j y b hj hb hns;⟨s',h1⟩) fun e fr' hp' h'=>?_
 ·have h0:remL (m'.zip bs) seen=[]:=Kjw fun e he=>hd e.2 (by rw[←hz];exact List.mem_map.2 ⟨e,he,rfl⟩)
  obtain⟨r,h1,h2⟩:=hI [] (by rw[h0])
  cases h1
  exact h2
 ·cases e with
  | normal=>
   obtain⟨j,y,b,s',hj,hb,hns,hs,hm'⟩:=h'
   obtain⟨s2,h1,h2,h3⟩:=hstep j y b hj hb hns
   rw[hs] at h1
   cases h1
   obtain⟨ex,e1,e2,e3⟩:=hm'.ex
   exact⟨_,st s',ob (seen++[b]) s',ex,h3,⟨seen++[b],s',rfl,h2,rfl,rfl⟩,e1,e2,e3⟩
  | _=>exact h'
end
end Go.Gk
namespace Go.Gk
structure KeyP(P:Program){K:Type}[BEq K](kt:TypeId)(kv:K→Value):Prop where
 find:∀ (w:World) (k:K) (l:List MapEntry) (m:List K),l.length=m.length→(∀ (j:Nat) (e:MapEntry) (x:K),l[j]?=some e→m[j]?=some x→e.key=kv x)→
  (Instr.findKey kt (kv k) l).run P w=.ok ((m.findIdx? fun x=>k==x).bind fun j=>(l[j]?).map fun e=>(j,e.val)) w
 check:∀ (w:World) (em:Bool) (k:K),(Instr.checkKey em 10000 kt (kv k)).run P w=.ok () w
 bits:∀ a b:K,(a==b)=true→Instr.sameBits 10000 (kv b) (kv a)=true
 ne:∀ a b:K,(a==b)=false→kv b≠kv a
 eq:∀ a b:K,(a==b)=true→a=b
 refl:∀ a:K,(a==a)=true
abbrev D.val:D→Value
 | .v x=>x
 | _=>.bool false
abbrev kD{K:Type}(enc:K→List D)(k:K):Value:=.agg ((enc k).map D.val).toArray
abbrev kG{K:Type}(enc:K→List D)(k:K):G:=.agg ((enc k).map G.d)
theorem Klm(a:Array UInt8):((⟨a⟩:ByteArray)==⟨a⟩)=true:=by
 show(a==a)=true
 simp
def Env.nil:Env:=⟨fun _=>False,fun _=>False,fun _ h=>h,fun _=>False,fun _ _ _ h=>h,fun _ h=>h.elim⟩
def D.isVal:D→Bool
 | .v x=>x.oneCell'
 | _=>false
theorem Kln{K:Type}{enc:K→List D}(hv:∀ k,(enc k).all D.isVal=true)(w:World)(O:Ow)(M:Mp)(k:K):VR w O M (kG enc k) (kD enc k):=by
 refine .agg (by simp) fun j g v hg h=>?_
 rw[gMp] at hg
 obtain⟨d,hd,rfl⟩:=oMs.1 hg
 have hc:=lAe.1 (hv k) d (mOg hd)
 have h':v=D.val d:=by
  simp[hd] at h
  exact h.symm
 subst h'
 match d,hc with
 | .v x,hc=>exact .d (.v _ hc)
theorem Klo{K:Type}{enc:K→List D}(hv:∀ k,(enc k).all D.isVal=true){w:World}{O:Ow}{M:Mp}{k:K}{v:Value}(h:VR w O M (kG enc k) v):v=kD enc k:=by
 cases h with
 | agg hl hr=>
  rename_i cs
  congr 1
  apply Array.ext
  ·simpa using hl
  intro j h1 h2
  have hj:j<(enc k).length:=by simpa using h2
  have hd:(enc k)[j]?=some (enc k)[j]:=gGe hj
  have hc:=lAe.1 (hv k) _ (List.getElem_mem hj)
  have:=hr j (.d (enc k)[j]) cs[j] (by rw[gMp,hd];rfl) (Array.getElem?_eq_getElem h1)
  simp only[List.getElem_toArray,List.getElem_map]
  generalize (enc k)[j]=d at *
  match d,hc with
  | .v x,hc=>exact vr_v this
def flatK:TypeDesc→Bool
 | .int _ | .bool | .string=>true
 | _=>false
theorem Klp{P:Program}{w:World}{t:TypeId}{d:TypeDesc}(hu:P.underlying t=some d)(hd:flatK d=true)(em:Bool)(n:Nat)(v:Value):(Instr.checkKey em (n+1) t v).run P w=.ok () w:=by
 unfold Instr.checkKey
 simp only[Sem.run_bind,run_underlying hu,Result.andThen]
 cases d<;>simp_all [flatK]
def flatFs(Γ:TypeId→Option TI)(xs:List G):List Field→Bool
 | []=>true
 | f :: fs=>(match Γ f.type with
  | some ⟨.int k,a,b,z⟩=>(partG ⟨.int k,a,b,z⟩ xs f.offset).isSome
  | some ⟨.bool,a,b,z⟩=>(partG ⟨.bool,a,b,z⟩ xs f.offset).isSome
  | some ⟨.string,a,b,z⟩=>(partG ⟨.string,a,b,z⟩ xs f.offset).isSome
  | _=>false)&&flatFs Γ xs fs
section
variable{P:Program}{Γ:TypeId→Option TI}
theorem Klq{K:Type}[BEq K](hΓ:TOK P Γ)(L:List Nat){kt:TypeId}{fs:Array Field}{sz by_:Nat}{z:Value}(enc:K→List D)(h:Γ kt=some ⟨.struct fs,sz,by_,z⟩)(hL:(L.all fun t=>!P.stoodInHeld t)=true)(hv:∀ k,(enc k).all D.isVal=true)
  (hf:∀ k,flatFs Γ ((enc k).map G.d) fs.toList=true) (he:∀ a b:K,eqG Γ L 9 kt (kG enc a) (kG enc b)=some (a==b)) (heq:∀ a b:K,(a==b)=true→a=b) (hre:∀ a:K,(a==a)=true) (hb:∀ a:K,Instr.sameBits 10000 (kD enc a) (kD enc a)=true):KeyP P kt (kD enc):=by
 obtain⟨hu,_⟩:=hΓ kt _ h
 have hvr:=fun w k=>Kln hv w (ownZ Env.nil [] ⟨[],[]⟩) ⟨[],[]⟩ k
 have hE:∀ (w:World) (a b:K),(Op.equal kt (kD enc a) (kD enc b)).run P w=.ok (a==b) w:=fun w a b=>Kfy (P:=P) (hp:=[]) (Z:=Env.nil) hΓ hL 9 10000 kt _ _ _ _ _ (he a b) (by decide) (hvr w a) (hvr w b)
 refine⟨fun w k l m hl hk=>?_,fun w em k=>?_,fun a b hab=>?_,fun a b hab hc=>?_,heq,hre⟩
 ·rw[run_findKey_eq w (by rw[hu])]
  have key:∀ (l:List MapEntry) (m:List K) (i:Nat),l.length=m.length→(∀ (j:Nat) (e:MapEntry) (x:K),l[j]?=some e→m[j]?=some x→e.key=kD enc x)→
    (Instr.findAsking kt (kD enc k) l i).run P w=.ok ((m.findIdx? fun x=>k==x).bind fun j=>(l[j]?).map fun e=>(i+j,e.val)) w:=by
   intro l
   induction l with
   | nil=>
    intro m i hl _
    cases m with
    | nil=>simp[Instr.findAsking]
    | cons _ _=>simp at hl
   | cons e l ih=>
    intro m i hl hk
    cases m with
    | nil=>simp at hl
    | cons x m=>
     have h0:=hk 0 e x (by simp) (by simp)
     have ih':=ih m (i+1) (by simpa using hl) fun j e x he hx=>hk (j+1) e x (by simpa using he) (by simpa using hx)
     simp only[Instr.findAsking,h0,Sem.run_bind,hE,Result.andThen_ok,List.findIdx?_cons]
     cases hb:(k==x) with
     | true=>simp
     | false=>
      simp only[Bool.false_eq_true,if_false,ih']
      cases m.findIdx? fun x=>k==x with
      | none=>rfl
      | some j=>simp[Nat.add_assoc,Nat.add_comm 1 j]
  simpa using key l m 0 hl hk
 ·have hg:=hf k
  have hpr:=hvr w k
  show(Instr.checkKey em (9999+1) kt (.agg ((enc k).map D.val).toArray)).run P w=.ok () w
  rw[Instr.checkKey]
  simp only[Sem.run_bind,run_underlying hu,Result.andThen_ok]
  rw[←Array.forIn_toList]
  generalize fs.toList=l at hg
  induction l with
  | nil=>simp
  | cons f l ih=>
   simp only[flatFs,Bool.and_eq_true] at hg
   have step:∃ (i:TI) (va:Value),Γ f.type=some i∧flatK i.desc=true∧(part f.type ((enc k).map D.val).toArray f.offset).run P w=.ok va w:=by
    have h1:=hg.1
    split at h1
    ·rename_i a b c d hi
     obtain⟨ga,hga⟩:=Option.isSome_iff_exists.1 h1
     obtain⟨va,e1,_⟩:=Kpr (P:=P) (hp:=[]) (Z:=Env.nil) (M:=⟨[],[]⟩) hΓ hi hpr hga
     exact⟨_,va,hi,rfl,e1⟩
    ·rename_i b c d hi
     obtain⟨ga,hga⟩:=Option.isSome_iff_exists.1 h1
     obtain⟨va,e1,_⟩:=Kpr (P:=P) (hp:=[]) (Z:=Env.nil) (M:=⟨[],[]⟩) hΓ hi hpr hga
     exact⟨_,va,hi,rfl,e1⟩
    ·rename_i b c d hi
     obtain⟨ga,hga⟩:=Option.isSome_iff_exists.1 h1
     obtain⟨va,e1,_⟩:=Kpr (P:=P) (hp:=[]) (Z:=Env.nil) (M:=⟨[],[]⟩) hΓ hi hpr hga
     exact⟨_,va,hi,rfl,e1⟩
    ·cases h1
   obtain⟨i,va,hi,hd,e1⟩:=step
   obtain⟨hu',_⟩:=hΓ f.type _ hi
   have e2:=Klp (P:=P) (w:=w) hu' hd em 9998 va
   simp only[List.forIn_cons,Sem.run_bind]
   by_cases hn:f.name = "_"
   ·simp only[hn,ne_eq,not_true_eq_false,if_false,Sem.run_pure,Result.andThen_ok]
    exact ih hg.2
   ·simp only[hn,ne_eq,not_false_eq_true,if_true,e1,e2,Result.andThen_ok,Sem.run_bind,Sem.run_pure]
    exact ih hg.2
 ·obtain rfl:=heq a b hab
  exact hb a
 ·have h1:=hE (default:World) a b
  have h2:=hE (default:World) a a
  rw[hc,h2,hre] at h1
  rw[hab] at h1
  cases h1
end
theorem Klr{K V:Type}[BEq K]{kv:K→Value}(heq:∀ a b:K,(a==b)=true→a=b){m' m:List (K×V)}(hp:m'.Perm m)(ha:Apart kv m')(k:K):mGet m' k=mGet m k:=by
 unfold mGet
 cases h1:m'.find? fun e=>k==e.1 with
 | none=>
  have:m.find? (fun e=>k==e.1)=none:=List.find?_eq_none.2 fun x hx=>List.find?_eq_none.1 h1 x (hp.mem_iff.2 hx)
  rw[this]
 | some x=>
  have hx:=List.mem_of_find?_eq_some h1
  have hkx:=heq k x.1 (List.find?_some (p:=fun e:K×V=>k==e.1) h1)
  cases h2:m.find? fun e=>k==e.1 with
  | none=>exact absurd (List.find?_some (p:=fun e:K×V=>k==e.1) h1) (List.find?_eq_none.1 h2 x (hp.mem_iff.1 hx))
  | some y=>
   have hy:=List.mem_of_find?_eq_some h2
   have hky:=heq k y.1 (List.find?_some (p:=fun e:K×V=>k==e.1) h2)
   rw[ha.one hx (hp.mem_iff.2 hy) (by rw[←hkx,←hky])]
section
variable{P:Program}{Γ:TypeId→Option TI}{F N:Nat}{Q:GPost}{fr fr':Fr}{hp hp':List Ob}{ks:List Kt}
variable{ops:Array Oper}{rest:List Oper}{g:G}
variable{d:Tmp}{op:Op}{ty:TypeId}{pos:String}{after:Array Edge}{gd:Option (Nat×Bool)}
variable{K V:Type}[BEq K][KLt K]{kv:K→Value}{agg:Bool}{enc:V→List D}{kenc:K→List D}
theorem MapAt.findP{kt:TypeId}{w:World}{O:Ow}{b:Nat}{m m':List (K×V)}{st}{ms:Array MapEntry}{cl:Nat}(h:MapAt w O kv agg enc b m m' st ms cl)(hK:KeyP P kt kv)(k:K) :
  (Instr.findKey kt (kv k) ms.toList).run P w=.ok ((m'.findIdx? fun e=>k==e.1).bind fun j=>(ms[j]?).map fun e=>(j,e.val)) w:=by
 have:=hK.find w k ms.toList (m'.map (·.1)) (by simpa using h.size) (fun j e x he hx=>by
  rw[gMp] at hx
  obtain⟨y,hy,rfl⟩:=oMs.1 hx
  obtain⟨e',e1,e2,_⟩:=h.get j y hy
  have:e=e':=by
   have he':ms[j]?=some e:=by simpa using he
   rw[e1] at he';exact(oSi he').symm
  rw[this];exact e2)
 rw[this,List.findIdx?_map]
 congr 2
 funext j
 simp
theorem Kls(hΓ:TOK P Γ){t kt et:TypeId}{i1 i3:TI}{x y:Operand}{id:Nat}{st:Option (List (Value×List D)×List Nat×Nat)}(m:List (K×V))(k:K)(z:V){gv:G}(h1:Γ t=some i1)(h1':i1.desc=.map kt et)(h3:Γ et=some i3)(hK:KeyP P kt (kD kenc))(hkv:∀ k,(kenc k).all D.isVal=true)
  (hx:fr.ev x=some (.map id)) (ho:hp[id]?=some (mObS (kD kenc) agg enc m st)) (hy:fr.ev y=some (kG kenc k)) (hz:zD i3.zero=enc z) (hag:isAggV i3.zero=agg) (hz1:(i3.zero.cells.toList.all (·.oneCell'))=true)
  (hg:dG agg (enc ((mGet m k).getD z))=some gv):OpP P N ⟨some d,.lookup t x y false,ty,pos,after,gd⟩ fr hp gv:=fun Z w M a hr=>by
 obtain⟨u1,_⟩:=hΓ t _ h1
 rw[h1'] at u1
 obtain⟨u3,inf,e1,e2,e3,e4⟩:=hΓ et _ h3
 have hvx:=hr.ev hx
 have hvy:=Klo hkv (hr.ev hy)
 simp only[execOp,hvy]
 generalize a.eval x=vx at hvx
 cases hvx with
 | map hM=>
  obtain⟨m',ms,cl,hA⟩:=Kjp hr.heap ho hM
  have m1:=hA.heap
  have m4:=hA.get
  have hf:=hA.findP hK k
  have hc:=hK.check w ms.isEmpty k
  rw[←Klr hK.eq hA.perm hA.apart] at hg
  rw[Kjq] at hg
  cases hi:m'.findIdx? fun e=>k==e.1 with
  | none=>
   rw[hi] at hf hg
   simp only[Option.bind_none,Option.getD_none] at hf hg
   refine⟨i3.zero,?_,(Kjk hag hz1).vr (by rw[hz];exact hg)⟩
   simp[Instr.lookup,run_underlying u1,MapKept.run_getObj_map m1,hc,hf,zeroValue,typeInfo,e1,e4]
  | some j=>
   rw[hi] at hf hg
   have hj:j<m'.length:=(lFi.1 hi).1
   obtain⟨e,f1,f2,f3⟩:=m4 j _ (gGe hj)
   simp only[Option.bind_some,f1,List.getElem?_eq_getElem hj,Option.map_some,Option.getD_some] at hf hg
   refine⟨e.val,?_,f3.vr hg⟩
   simp[Instr.lookup,run_underlying u1,MapKept.run_getObj_map m1,hc,hf]
theorem Klt(hΓ:TOK P Γ){t kt et:TypeId}{i1 i3:TI}{x y:Operand}{id:Nat}{st:Option (List (Value×List D)×List Nat×Nat)}(m:List (K×V))(k:K)(z:V){gv:G}(h1:Γ t=some i1)(h1':i1.desc=.map kt et)(h3:Γ et=some i3)(hK:KeyP P kt (kD kenc))(hkv:∀ k,(kenc k).all D.isVal=true)
  (hx:fr.ev x=some (.map id)) (ho:hp[id]?=some (mObS (kD kenc) agg enc m st)) (hy:fr.ev y=some (kG kenc k)) (hz:zD i3.zero=enc z) (hag:isAggV i3.zero=agg) (hz1:(i3.zero.cells.toList.all (·.oneCell'))=true)
  (hg:dG agg (enc ((mGet m k).getD z))=some gv):OpP P N ⟨some d,.lookup t x y true,ty,pos,after,gd⟩ fr hp (.tup [gv,.d (.v (.bool (mGet m k).isSome))]):=fun Z w M a hr=>by
 obtain⟨u1,_⟩:=hΓ t _ h1
 rw[h1'] at u1
 obtain⟨u3,inf,e1,e2,e3,e4⟩:=hΓ et _ h3
 have hvx:=hr.ev hx
 have hvy:=Klo hkv (hr.ev hy)
 simp only[execOp,hvy]
 generalize a.eval x=vx at hvx
 have fin:∀ (v:Value) (b:Bool),VR w (ownZ Z hp M) M gv v→VR w (ownZ Z hp M) M (.tup [gv,.d (.v (.bool b))]) (.tuple #[v,.bool b]):=fun v b hv=>.tup rfl fun j g u hg hu=>by
  match j with
  | 0=>cases hg;cases hu;exact hv
  | 1=>cases hg;cases hu;exact .d (.v _ rfl)
  | j+2=>cases hg
 cases hvx with
 | map hM=>
  obtain⟨m',ms,cl,hA⟩:=Kjp hr.heap ho hM
  have m1:=hA.heap
  have m4:=hA.get
  have hf:=hA.findP hK k
  have hc:=hK.check w ms.isEmpty k
  rw[←Klr hK.eq hA.perm hA.apart] at hg ⊢
  rw[Kjq] at hg ⊢
  cases hi:m'.findIdx? fun e=>k==e.1 with
  | none=>
   rw[hi] at hf hg
   simp only[Option.bind_none,Option.getD_none] at hf hg
   refine⟨.tuple #[i3.zero,.bool false],?_,fin _ false ((Kjk hag hz1).vr (by rw[hz];exact hg))⟩
   simp[Instr.lookup,run_underlying u1,MapKept.run_getObj_map m1,hc,hf,zeroValue,typeInfo,e1,e4]
  | some j=>
   rw[hi] at hf hg
   have hj:j<m'.length:=(lFi.1 hi).1
   obtain⟨e,f1,f2,f3⟩:=m4 j _ (gGe hj)
   simp only[Option.bind_some,f1,List.getElem?_eq_getElem hj,Option.map_some,Option.getD_some] at hf hg
   refine⟨.tuple #[e.val,.bool true],?_,?_⟩
   ·simp[Instr.lookup,run_underlying u1,MapKept.run_getObj_map m1,hc,hf]
   ·simp only[Option.bind_some,List.getElem?_eq_getElem hj,Option.map_some,Option.isSome_some]
    exact fin _ true (f3.vr hg)
theorem Klu(hΓ:TOK P Γ){t kt et:TypeId}{i1:TI}{x y z:Operand}{id:Nat}{st:Option (List (Value×List D)×List Nat×Nat)}(m:List (K×V))(k:K)(v:V){gv:G}(h1:Γ t=some i1)(h1':i1.desc=.map kt et)(hK:KeyP P kt (kD kenc))(hkv:∀ k,(kenc k).all D.isVal=true)
  (hx:fr.ev x=some (.map id)) (ho:hp[id]?=some (mObS (kD kenc) agg enc m st)) (hy:fr.ev y=some (kG kenc k)) (hv:fr.ev z=some gv) (hg:dG agg (enc v)=some gv) :
  OpU P N ⟨none,.mapUpdate t x y z,ty,pos,after,gd⟩ fr hp (hp.set id (mOb (kD kenc) agg enc (mSet m k v))):=fun Z w M a hr=>by
 obtain⟨u1,_⟩:=hΓ t _ h1
 rw[h1'] at u1
 have hvx:=hr.ev hx
 have hvz:=hr.ev hv
 have hvy:=Klo hkv (hr.ev hy)
 simp only[execOp,hvy]
 generalize a.eval x=vx at hvx
 generalize a.eval z=vz at hvz
 have hdz:DV w (ownZ Z hp M) agg (enc v) vz:=hvz.dv hg
 cases hvx with
 | map hM=>
  rename_i b c
  obtain⟨m',ms,cl,hA⟩:=Kjp hr.heap ho hM
  have m1:=hA.heap
  have m2:=hA.size
  have m3:=hA.born
  have m4:=hA.get
  have hf:=hA.findP hK k
  have hc:=hK.check w false k
  cases hi:m'.findIdx? fun e=>k==e.1 with
  | none=>
   rw[hi] at hf
   simp only[Option.bind_none] at hf
   have hset:mSet m k v=mIns k v m:=by unfold mSet;rw[Kjt hA.perm k hi]
   have hnk:∀ e∈m',kD kenc e.1≠kD kenc k:=fun e he hkv'=>by
    exact hK.ne k e.1 (List.findIdx?_eq_none_iff.1 hi e he) hkv'
   rw[hset]
   obtain⟨r1,r2⟩:=Kjm (o':=mOb (kD kenc) agg enc (mIns k v m)) (ob':=.map (ms.push { key:=kD kenc k,val:=vz,born:=cl }) (cl+1)) hr.heap ho rfl hM (fun w' hst hh=>by
    refine⟨_,_,(m'++[(k,v)]).map fun e=>(kD kenc e.1,enc e.2),hh,?_,?_,fun raw h=>(by cases h),by simp[m2],⟨fun i j e e' hi hj hb=>?_,fun i e hi=>?_⟩,fun j k' ds hj=>?_⟩
    ·exact((hA.perm.append_right _).trans (Kjf k v m).symm).map _
    ·rw[List.pairwise_map,List.pairwise_append]
     exact⟨hA.apart,List.pairwise_singleton _ _,fun e he e' he'=>by obtain rfl:=List.mem_singleton.1 he';exact hnk e he⟩
    ·rw[Array.getElem?_push] at hi hj
     split at hi<;>split at hj
     ·omega
     ·cases hi;have:=m3.2 j e' hj;simp only at hb;omega
     ·cases hj;have:=m3.2 i e hi;simp only at hb;omega
     ·exact m3.1 i j e e' hi hj hb
    ·rw[Array.getElem?_push] at hi
     split at hi
     ·cases hi;simp
     ·have:=m3.2 i e hi;omega
    ·simp only[List.map_append,List.map_cons,List.map_nil] at hj
     rcases Kqj hj with⟨hl,h'⟩ | ⟨hl,h'⟩
     ·rw[gMp] at h'
      obtain⟨x,hx,he⟩:=oMs.1 h'
      simp only[Prod.mk.injEq] at he
      obtain⟨rfl,rfl⟩:=he
      obtain⟨e,e1,e2,e3⟩:=m4 j x hx
      have hlt:=(aEs.1 e1).1
      exact⟨e,by rw[Array.getElem?_push_lt hlt,←Array.getElem?_eq_getElem hlt];exact e1,e2,e3.step hst⟩
     ·simp only[Prod.mk.injEq] at h'
      obtain⟨rfl,rfl⟩:=h'
      refine⟨{ key:=kD kenc k,val:=vz,born:=cl },?_,rfl,hdz.step hst⟩
      rw[hl,List.length_map,←m2]
      simp) rfl
   refine⟨_,M,?_,r1,r2,⟨Nat.le_of_eq hr.heap.len.symm,fun _ _=>rfl⟩⟩
   simp[Instr.mapUpdate,run_underlying u1,MapKept.run_getObj_map m1,hc,hf,MapKept.run_setObj_map _ m1]
  | some j=>
   rw[hi] at hf
   have hj:j<m'.length:=(lFi.1 hi).1
   have hkj:(k==(m'[j]).1)=true:=(lFi.1 hi).2.1
   have hkj':=hK.eq _ _ hkj
   obtain⟨e,f1,f2,f3⟩:=m4 j _ (gGe hj)
   simp only[Option.bind_some,f1,Option.map_some] at hf
   obtain⟨i,hi2⟩:∃ i,(m.findIdx? fun e=>k==e.1)=some i:=by
    cases h0:m.findIdx? fun e=>k==e.1 with
    | some i=>exact⟨i,rfl⟩
    | none=>rw[Kjt hA.perm.symm k h0] at hi;cases hi
   have hil:i<m.length:=(lFi.1 hi2).1
   have hki:=hK.eq _ _ (lFi.1 hi2).2.1
   have hset:mSet m k v=m.set i (k,v):=by unfold mSet;rw[hi2]
   have hsame:m'[j]=m[i]:=hA.apart.one (List.getElem_mem hj) (hA.perm.mem_iff.2 (List.getElem_mem hil)) (by rw[←hkj',←hki])
   have hperm:(m'.set j (k,v)).Perm (m.set i (k,v)):=by
    obtain⟨a1,a2⟩:=Kjs (k,v) (gGe hj)
    obtain⟨b1,b2⟩:=Kjs (k,v) (gGe hil)
    rw[hsame] at a2
    exact a1.trans ((((a2.symm.trans hA.perm).trans b2).cons_inv.cons _).trans b1.symm)
   rw[hset]
   have hjs:=(aEs.1 f1).1
   have hbits:Instr.sameBits 10000 e.key (kD kenc k)=true:=by rw[f2];exact hK.bits k _ hkj
   obtain⟨r1,r2⟩:=Kjm (o':=mOb (kD kenc) agg enc (m.set i (k,v))) (ob':=.map (ms.modify j fun e=>{ e with key:=kD kenc k,val:=vz }) cl) hr.heap ho rfl hM (fun w' hst hh=>by
    have hget:∀ (i:Nat) (e':MapEntry),(ms.modify j fun e=>{ e with key:=kD kenc k,val:=vz })[i]?=some e'→∃ e0,ms[i]?=some e0∧e'.born=e0.born:=fun i e' h=>by
     rw[Array.getElem?_modify] at h
     split at h
     ·obtain⟨e0,h0,rfl⟩:=oMs.1 h
      exact⟨e0,h0,rfl⟩
     ·exact⟨e',h,rfl⟩
    refine⟨_,_,(m'.set j (k,v)).map fun e=>(kD kenc e.1,enc e.2),hh,hperm.map _,?_,fun raw h=>(by cases h),by simp[m2],⟨fun i i' e1 e2 h1 h2 hb=>?_,fun i e1 h1=>?_⟩,fun i k' ds h=>?_⟩
    ·have hkeys:(m'.set j (k,v)).map (fun e=>kD kenc e.1)=m'.map (fun e=>kD kenc e.1):=by
      rw[List.map_set]
      apply List.ext_getElem?
      intro n
      rw[List.getElem?_set]
      split
      ·rename_i hn
       subst hn
       simp[hj,hkj']
      ·rfl
     rw[List.pairwise_map]
     have:=List.pairwise_map (f:=fun e:K×V=>kD kenc e.1) (R:=fun x y=>x≠y) (l:=m'.set j (k,v))
     rw[hkeys,List.pairwise_map] at this
     exact this.1 hA.apart
    ·obtain⟨a1,b1,c1⟩:=hget i e1 h1
     obtain⟨a2,b2,c2⟩:=hget i' e2 h2
     exact m3.1 i i' a1 a2 b1 b2 (by rw[←c1,←c2];exact hb)
    ·obtain⟨a1,b1,c1⟩:=hget i e1 h1
     rw[c1];exact m3.2 i a1 b1
    ·rw[gMp] at h
     obtain⟨x,hx,he⟩:=oMs.1 h
     simp only[Prod.mk.injEq] at he
     obtain⟨rfl,rfl⟩:=he
     by_cases hij:j=i
     ·subst hij
      rw[gSs hj] at hx
      cases hx
      exact⟨{ e with key:=kD kenc k,val:=vz },by rw[Array.getElem?_modify,if_pos rfl,f1];rfl,rfl,hdz.step hst⟩
     ·rw[gSn hij] at hx
      obtain⟨e1,g1,g2,g3⟩:=m4 i x hx
      exact⟨e1,by rw[Array.getElem?_modify,if_neg hij];exact g1,g2,g3.step hst⟩) rfl
   refine⟨_,M,?_,r1,r2,⟨Nat.le_of_eq hr.heap.len.symm,fun _ _=>rfl⟩⟩
   simp[Instr.mapUpdate,run_underlying u1,MapKept.run_getObj_map m1,hc,hf,MapKept.run_setObj_map _ m1,f1,Instr.keyThatStays,hbits]
end
end Go.Gk
namespace Go.Gk
def rangeLM{α σ ρ:Type}(f:α→σ→Option (LS σ ρ)):List α→σ→Option (LS σ ρ)
 | [],s=>some (.go s)
 | x :: l,s=>match f x s with
  | some (.go s')=>rangeLM f l s'
  | some (.out r)=>some (.out r)
  | none=>none
noncomputable def rangePM {α σ ρ:Type} (f:α→σ→Option (LS σ ρ)) (m:List α) (s:σ):Option (LS σ ρ):=
 open Classical in if h:∃ r,∀ m':List α,m'.Perm m→rangeLM f m' s=some r then some (Classical.choose h) else none
def asc(s:List UInt8):Bool:=s.all fun b=>decide (b.toNat<128)
section
variable{P:Program}{Γ:TypeId→Option TI}{F N:Nat}{Q:GPost}{fr fr':Fr}{hp hp':List Ob}{ks:List Kt}
variable{ops:Array Oper}{rest:List Oper}{g:G}
variable{d:Tmp}{op:Op}{ty:TypeId}{pos:String}{after:Array Edge}{gd:Option (Nat×Bool)}
variable{K V:Type}[BEq K][KLt K]
end
end Go.Gk
namespace Go.Gk
structure Spec where
 k:Nat
 fr:Fr
 g:G
 ch:Option (Nat×Ob×Ob)
abbrev LogE:=(List (Option G)×Option Ob)×(List (Option G)×Option Ob)
def SpecOk(P:Program)(N:Nat)(ops:Array Oper)(sp:Spec):Prop:=∃ (o:Oper) (d:Tmp),ops[sp.k]?=some o∧o.dst=some d∧d<N∧o.guard=none∧(∀ t g,sp.fr.get t=some g→t∈o.looksAt ops)∧
 match sp.ch with
 | none=>∀ hp,QtE P N o sp.fr hp sp.g hp
 | some (id,x,y)=>∀ hp,hp.all Ob.sole=true→hp[id]?=some x→QtE P N o sp.fr hp sp.g (hp.set id y)
def SpecsOk(P:Program)(N:Nat)(ops:Array Oper):List Spec→Prop
 | []=>True
 | s :: r=>SpecOk P N ops s∧SpecsOk P N ops r
def Spec.log(sp:Spec)(fr:Fr)(hp:List Ob):LogE:=match sp.ch with
 | none=>((sp.fr.map fun e=>fr.get e.1,none),(sp.fr.map fun e=>some e.2,none))
 | some (id,x,_)=>((sp.fr.map fun e=>fr.get e.1,hp[id]?),(sp.fr.map fun e=>some e.2,some x))
def findS(sps:List Spec)(k:Nat):Option Spec:=match sps with
 | []=>none
 | s :: r=>bif Nat.beq s.k k then some s else findS r k
def lstC(Γ:TypeId→Option TI)(N:Nat)(hpL:List Ob)(ll:List Nat)(bx:List (Nat×List Nat))(sps:List Spec)(ops:Array Oper)(k:Nat)(fr:Fr)(hp:List Ob)(lg:List LogE)(o:Oper):Option (Fr×List LogE):=match findS sps k with
 | some sp=>match sp.ch,o.dst with
  | none,some d=>some ((d,sp.g) :: fr,lg++[sp.log fr hp])
  | _,_=>none
 | none=>(xstep Γ N hpL ll bx ops k fr o).map fun fr'=>(fr',lg)
def hstC(Γ:TypeId→Option TI)(N:Nat)(hpL:List Ob)(sps:List Spec)(ops:Array Oper)(k:Nat)(fr:Fr)(hp:List Ob)(lg:List LogE)(o:Oper):Option (Fr×List Ob×List LogE):=match findS sps k with
 | some sp=>match sp.ch,o.dst with
  | some (id,_,y),some d=>bif hp.all Ob.sole&&deadB hpL id then some ((d,sp.g) :: fr,hp.set id y,lg++[sp.log fr hp]) else none
  | _,_=>none
 | none=>(hst Γ N hpL ops fr hp o).map fun s=>(s.1,s.2,lg)
def anyC(Γ:TypeId→Option TI)(N:Nat)(hpL:List Ob)(ll hl:List Nat)(bx:List (Nat×List Nat))(sps:List Spec)(ops:Array Oper):Nat→Array Bool→Fr→List Ob→List LogE→Option (List (Fr×List Ob×List LogE))
 | 0,listed,fr,hp,lg=>match Region.ready .any ops listed with
  | []=>some [(fr,hp,lg)]
  | _ :: _=>none
 | fuel+1,listed,fr,hp,lg=>match Region.ready .any ops listed with
  | []=>some [(fr,hp,lg)]
  | i0 :: r=>match (i0 :: r).find? fun i=>!(inL hl i) with
   | some i=>match ops[i]? with
    | none=>none
    | some o=>bif Region.free .any ops listed i then match lstC Γ N hpL ll bx sps ops i fr hp lg o with
     | some s=>anyC Γ N hpL ll hl bx sps ops fuel (listed.setIfInBounds i true) s.1 hp s.2
     | none=>none
     else none
   | none=>ocat (fun i=>match ops[i]? with
     | none=>none
     | some o=>match hstC Γ N hpL sps ops i fr hp lg o with
      | some s=>anyC Γ N hpL ll hl bx sps ops fuel (listed.setIfInBounds i true) s.1 s.2.1 s.2.2
      | none=>none) (i0 :: r)
section
variable{P:Program}{Γ:TypeId→Option TI}{F N:Nat}{Q:GPost}{fr fr':Fr}{hp hp' hpL:List Ob}{ks:List Kt}{ll hl:List Nat}{bx:List (Nat×List Nat)}{sps:List Spec}
variable{ops:Array Oper}
def LogOk(lg:List LogE):Prop:=∀ e∈lg,e.1=e.2
end
end Go.Gk
