import Derived.Test.YtjmlnnanfkiakaaGreatDoorGk0
import Derived.WalkKit
import Derived.Laws.AppendOwn
import Derived.Orders
import Derived.Deep.LoopGhost
set_option linter.all false
namespace Go.Gk
theorem nBe{n m:Nat}(h:Nat.ble n m=true):n≤m:=Nat.le_of_ble_eq_true h
theorem oSi{α:Type}{a b:α}(h:some a=some b):a=b:=Option.some.inj h
def tV:=@trivial
def gEs:=@List.getElem?_eq_some_iff
def gGe:=@List.getElem?_eq_getElem
def oMs:=@Option.map_eq_some_iff
def gAl:=@List.getElem?_append_left
def mOg:=@List.mem_of_getElem?
def nEq:=@Nat.eq_of_beq_eq_true
def nLl:=@Nat.lt_of_lt_of_le
def aEs:=@Array.getElem?_eq_some_iff
def lFi:=@List.findIdx?_eq_some_iff_getElem
inductive D where
 | v (x:Value)
 | ro (n:Nat) (xs:List D)
 | rf (n:Nat) (xs:List D)
 | rt (te:TypeId) (sz t n:Nat) (xs:List D)
 | hd (k:Option Nat) (t:Nat)
 | rv (te:TypeId) (sz t n:Nat)
inductive G where
 | d (x:D)
 | agg (xs:List G)
 | ptr (id off:Nat)
 | rp (xs:List D)
 | sl (id n:Nat)
 | slo (id sz o n:Nat)
 | map (id:Nat)
 | fn (f:Fn) (first cap:List G)
 | tup (xs:List G)
 | junk
inductive Ar where
 | map (t:Nat) (agg:Bool) (es:List (Value×List D))
 | box (t:Nat) (ty:TypeId) (ds:List D)
 | row (t:Nat) (ty:TypeId) (sz n:Nat) (ds:List D)
def Ar.t:Ar→Nat
 | .map t _ _ | .box t _ _ | .row t _ _ _ _=>t
def Ar.isRow:Ar→Bool
 | .row _ _ _ _ _=>true
 | _=>false
inductive Ob where
 | box (t:TypeId) (gs:List G)
 | row (t:TypeId) (sz n:Nat) (ds:List D)
 | map (agg:Bool) (es:List (Value×List D)) (st:Option (List (Value×List D)×List Nat×Nat))
 | iter (mid clock:Nat) (seen:List Nat)
 | siter (s:List UInt8) (pos:Nat)
 | bag (al:List Bool) (ar:List Ar) (lt:List (Nat×Nat))
 | dead
def Ob.live:Ob→Bool
 | .dead=>false
 | _=>true
structure Tg where
 b:Nat
 n:Nat
 c:Nat
 sz:Nat
 t:TypeId
 v:Bool
structure Mp where
 l:List (Option (Nat×Nat))
 h:List (Option Tg)
abbrev Mp.take(M:Mp)(k:Nat):Mp:=⟨M.l.take k,M.h⟩
abbrev Mp.set(M:Mp)(k:Nat)(x:Option (Nat×Nat)):Mp:=⟨M.l.set k x,M.h⟩
abbrev Mp.drop(M:Mp)(k:Nat):List (Option (Nat×Nat)):=M.l.drop k
abbrev Mp.app(M:Mp)(x:List (Option (Nat×Nat))):Mp:=⟨M.l++x,M.h⟩
instance:HAppend Mp (List (Option (Nat×Nat))) Mp:=⟨Mp.app⟩
@[simp] theorem Mp.app_l' (M:Mp) (x:List (Option (Nat×Nat))):(M.app x).l=M.l++x:=rfl
@[simp] theorem Mp.app_h' (M:Mp) (x:List (Option (Nat×Nat))):(M.app x).h=M.h:=rfl
@[simp] theorem Mp.app_l (M:Mp) (x:List (Option (Nat×Nat))):(M++x).l=M.l++x:=rfl
@[simp] theorem Mp.app_h (M:Mp) (x:List (Option (Nat×Nat))):(M++x).h=M.h:=rfl
structure Ow where
 o:Nat→Prop
 h:List (Option Tg)
 g:Prop
instance:CoeFun Ow (fun _=>Nat→Prop):=⟨Ow.o⟩
def Ow.safe(O:Ow)(b k:Nat):Prop:=O.o b→∃ x:Tg,some x∈O.h∧x.b=b∧k<x.n * x.sz
def Ow.Tag(O:Ow)(te:TypeId)(sz n:Nat)(v:Value):Nat→Prop
 | 0=>True
 | 1=>∃ a,v=.slice a n n∧(n=0→a=none)
 | t+2=>(O.h[t]?=some none∧v=.slice none 0 0)∨∃ x:Tg,O.h[t]?=some (some x)∧x.n=n∧x.t=te∧x.sz=sz∧x.v=false∧v=.slice (some ⟨x.b,0,none⟩) n x.c
abbrev Fr:=List (Nat×G)
def Fr.get:Fr→Nat→Option G
 | [],_=>none
 | (k,g) :: r,t=>bif Nat.beq k t then some g else Fr.get r t
def hval(k:Option Nat)(b:Option Nat):Value:=match k with
 | some off=>.pointer (b.map fun b=>⟨b,off,none⟩)
 | none=>.map b
def Ow.Hd(O:Ow)(k:Option Nat)(v:Value):Nat→Prop
 | 0=>v=hval k none
 | t+1=>∃ x:Tg,O.h[t]?=some (some x)∧(x.sz=0∨x.v=true)∧v=hval k (some x.b)
def Ow.Rv(O:Ow)(te:TypeId)(sz n:Nat)(v:Value):Nat→Prop
 | 0=>n=0∧v=.slice none 0 0
 | t+1=>∃ x:Tg,O.h[t]?=some (some x)∧x.v=true∧x.n=0∧x.sz=sz∧x.t=te∧0<n∧n≤x.c∧x.c≤maxLen∧v=.slice (some ⟨x.b,0,none⟩) n x.c
inductive VD (w:World) (O:Ow):D→Value→Prop
 | v (x:Value) (h:x.oneCell'=true):VD w O (.v x) x
 | nil:VD w O (.ro 0 []) (.slice none 0 0)
 | ro (n:Nat) (xs:List D) (b off cap:Nat) (vs:Nat→Value) (hb:b<w.heap.size) (hO:∀ j,j<xs.length→O.safe b (off+j)) (hn:n≤cap) (hm:cap≤maxLen)
   (hc:∀ j d,xs[j]?=some d→w.cell? ⟨b,off+j,none⟩=some (vs j))
   (hv:∀ j d,xs[j]?=some d→VD w O d (vs j)):VD w O (.ro n xs) (.slice (some ⟨b,off,none⟩) n cap)
 | rf (n:Nat) (xs:List D) (b off:Nat) (vs:Nat→Value) (hb:b<w.heap.size) (hO:∀ j,j<xs.length→O.safe b (off+j)) (hm:n≤maxLen)
   (hc:∀ j d,xs[j]?=some d→w.cell? ⟨b,off+j,none⟩=some (vs j))
   (hv:∀ j d,xs[j]?=some d→VD w O d (vs j)):VD w O (.rf n xs) (.slice (some ⟨b,off,none⟩) n n)
 | rt (te:TypeId) (sz t n:Nat) (xs:List D) (v:Value) (h:VD w O (.ro n xs) v) (ht:O.Tag te sz n v t):VD w O (.rt te sz t n xs) v
 | hd (k:Option Nat) (t:Nat) (v:Value) (h:O.Hd k v t):VD w O (.hd k t) v
 | rv (te:TypeId) (sz t n:Nat) (v:Value) (h:O.Rv te sz n v t):VD w O (.rv te sz t n) v
inductive VR (w:World) (O:Ow) (M:Mp):G→Value→Prop
 | d {x:D} {v:Value} (h:VD w O x v):VR w O M (.d x) v
 | agg {gs:List G} {vs:Array Value} (hl:vs.size=gs.length) (h:∀ (j:Nat) (g:G) (v:Value),gs[j]?=some g→vs[j]?=some v→VR w O M g v):VR w O M (.agg gs) (.agg vs)
 | ptr {id off b c:Nat} (h:M.l[id]?=some (some (b,c))):VR w O M (.ptr id off) (.pointer (some ⟨b,off,none⟩))
 | rp {xs:List D} {b off:Nat} (vs:Nat→Value) (hb:b<w.heap.size) (hO:∀ j,j<xs.length→O.safe b (off+j))
   (hc:∀ j d,xs[j]?=some d→w.cell? ⟨b,off+j,none⟩=some (vs j))
   (hv:∀ j d,xs[j]?=some d→VD w O d (vs j)):VR w O M (.rp xs) (.pointer (some ⟨b,off,none⟩))
 | sl {id n b c:Nat} (h:M.l[id]?=some (some (b,c))) (hn:n≤c) (hm:c≤maxLen):VR w O M (.sl id n) (.slice (some ⟨b,0,none⟩) n c)
 | slnil {id:Nat} (h:M.l[id]?=some none):VR w O M (.sl id 0) (.slice none 0 0)
 | slo {id sz o n b c:Nat} (h:M.l[id]?=some (some (b,c))) (hn:o+n≤c) (hm:c≤maxLen):VR w O M (.slo id sz o n) (.slice (some ⟨b,if c=o then 0 else o * sz,none⟩) n (c - o))
 | slonil {id sz:Nat} (h:M.l[id]?=some none):VR w O M (.slo id sz 0 0) (.slice none 0 0)
 | map {id b c:Nat} (h:M.l[id]?=some (some (b,c))):VR w O M (.map id) (.map (some b))
 | fn {f:Fn} {g1 g2:List G} {v1 v2:Array Value} (l1:v1.size=g1.length) (l2:v2.size=g2.length)
   (h1:∀ (j:Nat) (g:G) (v:Value),g1[j]?=some g→v1[j]?=some v→VR w O M g v) (h2:∀ (j:Nat) (g:G) (v:Value),g2[j]?=some g→v2[j]?=some v→VR w O M g v):VR w O M (.fn f g1 g2) (.func f v1 v2)
 | tup {gs:List G} {vs:Array Value} (hl:vs.size=gs.length) (h:∀ (j:Nat) (g:G) (v:Value),gs[j]?=some g→vs[j]?=some v→VR w O M g v):VR w O M (.tup gs) (.tuple vs)
 | junk (v:Value):VR w O M .junk v
def obOwn(hp:List Ob)(M:Mp)(b:Nat):Prop:=∃ (i:Nat) (o:Ob) (c:Nat),hp[i]?=some o∧o.live=true∧M.l[i]?=some (some (b,c))
def hasBag(hp:List Ob):Prop:=∃ (i:Nat) (al:List Bool) (ar:List Ar) (lt:List (Nat×Nat)),hp[i]?=some (.bag al ar lt)
def own(hp:List Ob)(M:Mp):Ow:=⟨fun b=>obOwn hp M b∨(hasBag hp∧∃ x:Tg,some x∈M.h∧x.b=b),M.h,hasBag hp⟩
theorem Kva{M:Mp}{b:Nat}:¬ obOwn [] M b:=fun ⟨i,o,c,h,_⟩=>by simp at h
theorem Kvb:¬ hasBag []:=fun ⟨i,al,ar,lt,h⟩=>by simp at h
theorem Kvc{M:Mp}{b:Nat}:¬ own [] M b:=fun h=>h.elim Kva fun h=>Kvb h.1
theorem Kvd{hp hp':List Ob}{M M':Mp}(h:∀ b,own hp M b ↔ own hp' M' b)(hh:M.h=M'.h)(hg:hasBag hp ↔ hasBag hp'):own hp M=own hp' M':=by
 have e:(own hp M).o=(own hp' M').o:=by funext b;exact propext (h b)
 have e2:hasBag hp=hasBag hp':=propext hg
 show(⟨(own hp M).o,M.h,hasBag hp⟩:Ow)=⟨(own hp' M').o,M'.h,hasBag hp'⟩
 rw[e,hh,e2]
theorem Kve{hp hp':List Ob}{M M':Mp}{b:Nat}(h:own hp M b)(h1:obOwn hp M b→obOwn hp' M' b)(h2:hasBag hp→hasBag hp')(h3:M'.h=M.h):own hp' M' b:=
 h.imp h1 fun ⟨g,x,hx,e⟩=>⟨h2 g,x,by rw[h3];exact hx,e⟩
def CellsR(w:World)(O:Ow)(M:Mp)(cs:Array Value)(gs:List G):Prop:=
 ∀ (j:Nat) (g:G),gs[j]?=some g→∃ v:Value,cs[j]?=some v∧v.oneCell'=true∧VR w O M g v
def DataR(w:World)(O:Ow)(cs:Array Value)(ds:List D):Prop:=
 ∀ (j:Nat) (d:D),ds[j]?=some d→∃ v:Value,cs[j]?=some v∧VD w O d v
def DV(w:World)(O:Ow)(agg:Bool)(ds:List D)(v:Value):Prop:=match agg with
 | true=>∃ cs:Array Value,v=.agg cs∧cs.size=ds.length∧∀ (j:Nat) (d:D) (u:Value),ds[j]?=some d→cs[j]?=some u→VD w O d u
 | false=>∃ d,ds=[d]∧VD w O d v
def Born(ms:Array MapEntry)(clock:Nat):Prop:=(∀ (i j:Nat) (e e':MapEntry),ms[i]?=some e→ms[j]?=some e'→e.born=e'.born→i=j)∧∀ (i:Nat) (e:MapEntry),ms[i]?=some e→e.born<clock
def MapR(w:World)(O:Ow)(agg:Bool)(es:List (Value×List D))(st:Option (List (Value×List D)×List Nat×Nat))(b:Nat):Prop:=
 ∃ ms clock es',w.heap[b]?=some (.map ms clock)∧List.Perm es' es∧es'.Pairwise (fun x y=>x.1≠y.1)∧(∀ raw,st=some raw→raw=(es',ms.toList.map (·.born),clock))∧ms.size=es'.length∧Born ms clock∧
   ∀ (j:Nat) (k:Value) (ds:List D),es'[j]?=some (k,ds)→∃ e:MapEntry,ms[j]?=some e∧e.key=k∧DV w O agg ds e.val
def ArR(w:World)(O:Ow)(M:Mp):Ar→Prop
 | .map t agg es=>∃ x:Tg,M.h[t]?=some (some x)∧x.sz=0∧MapR w O agg es none x.b
 | .box t ty ds=>∃ x:Tg,M.h[t]?=some (some x)∧x.sz=0∧∃ cs,w.heap[x.b]?=some (.cells cs ty (0,0))∧cs.size=ds.length∧DataR w O cs ds
 | .row t ty sz n ds=>∃ x:Tg,M.h[t]?=some (some x)∧(x.v=true∧x.n=0∧x.sz=sz∧x.t=ty∧0<sz)∧ds.length=n * sz∧∃ cs,w.heap[x.b]?=some (.cells cs ty (0,0))∧cs.size=x.c * sz∧n≤x.c∧DataR w O cs ds
def ObR(w:World)(O:Ow)(M:Mp):Ob→Option (Nat×Nat)→Prop
 | .box t gs,some (b,_)=>∃ cs,w.heap[b]?=some (.cells cs t (0,0))∧cs.size=gs.length∧CellsR w O M cs gs
 | .box _ _,none=>False
 | .row t sz n ds,some (b,c)=>ds.length=n * sz∧∃ cs,w.heap[b]?=some (.cells cs t (0,0))∧cs.size=c * sz∧n≤c∧c≤maxLen∧DataR w O cs ds
 | .row _ _ n ds,none=>ds=[]∧n=0
 | .map agg es st,some (b,_)=>MapR w O agg es st b
 | .map _ _ _,none=>False
 | .iter mid clock seen,some (b,_)=>∃ bm c,M.l[mid]?=some (some (bm,c))∧w.heap[b]?=some (.mapIter (some bm) clock seen.toArray clock)
 | .iter _ _ _,none=>False
 | .siter s pos,some (b,_)=>w.heap[b]?=some (.stringIter ⟨s.toArray⟩ pos)
 | .siter _ _,none=>False
 | .bag _ _ _,some _=>False
 | .bag al ar lt,none=>al.length=M.h.length∧(∀ (t:Nat) (x:Tg),al[t]?=some true→M.h[t]?=some (some x)→0<x.sz∧∃ cs:Array Value,w.heap[x.b]?=some (.cells cs x.t (0,0))∧cs.size=x.c * x.sz∧x.n≤x.c∧x.c≤maxLen)∧
   (∀ (t t':Nat) (x x':Tg),al[t]?=some true→M.h[t]?=some (some x)→M.h[t']?=some (some x')→x'.b=x.b→x'.n * x'.sz≤x.n * x.sz∧(al[t']?=some true→t'=t))∧
   (∀ a∈ar,ArR w O M a∧(∀ id,(a.t,id) ∉ lt)∧(a.isRow=true→al[a.t]?=some true))∧ar.Pairwise (fun a a'=>a.t≠a'.t)∧
   (∀ t id,(t,id)∈lt→∃ (x:Tg) (c:Nat),M.h[t]?=some (some x)∧x.sz=0∧M.l[id]?=some (some (x.b,c)))
 | .dead,_=>True
structure Env where
 z:Nat→Prop
 v:Nat→Prop
 hv:∀ b,v b→z b
 x:World→Prop
 st:∀ w w':World,(∀ b,z b→w'.heap[b]?=w.heap[b]?)→x w→x w'
 ax:∀ w:World,x w→TabX w
instance:CoeFun Env (fun _=>Nat→Prop):=⟨Env.z⟩
def ownZ(Z:Env)(hp:List Ob)(M:Mp):Ow:=⟨fun b=>own hp M b∨Z.v b,M.h,True⟩
def Kept(M:Mp)(lt:List (Nat×Nat))(x:Tg):Prop:=∃ t:Nat,M.h[t]?=some (some x)∧∀ id,(t,id) ∉ lt
structure Bags(hp:List Ob)(M:Mp)(w:World):Prop where
 tgs:∀ x:Tg,some x∈M.h→x.b<w.heap.size∧(0<x.sz→¬ obOwn hp M x.b)
 one:∀ (i j:Nat) (al al':List Bool) (ar ar':List Ar) (lt lt':List (Nat×Nat)),hp[i]?=some (.bag al ar lt)→hp[j]?=some (.bag al' ar' lt')→i=j
 lnd:∀ (i:Nat) (al:List Bool) (ar:List Ar) (lt:List (Nat×Nat)),hp[i]?=some (.bag al ar lt)→∀ (t:Nat) (x:Tg),M.h[t]?=some (some x)→obOwn hp M x.b→∃ id,(t,id)∈lt
 hds:∀ (t t':Nat) (x x':Tg),M.h[t]?=some (some x)→M.h[t']?=some (some x')→x.sz=0→x'.b=x.b→t'=t
theorem Bags.mono{hp hp':List Ob}{M M':Mp}{w w':World}(h:Bags hp M w)(hh:M'.h=M.h)(hs:w.heap.size≤w'.heap.size)(ho:∀ b,b<w.heap.size→obOwn hp' M' b→obOwn hp M b)
  (hb:∀ (i:Nat) (al:List Bool) (ar:List Ar) (lt:List (Nat×Nat)),hp'[i]?=some (.bag al ar lt)→hp[i]?=some (.bag al ar lt)):Bags hp' M' w':=
 ⟨fun x hx=>let ⟨h1,h2⟩:=h.tgs x (by rw[←hh];exact hx);⟨nLl h1 hs,fun hz h3=>h2 hz (ho _ h1 h3)⟩,fun i j al al' ar ar' lt lt' hi hj=>h.one i j al al' ar ar' lt lt' (hb i al ar lt hi) (hb j al' ar' lt' hj),
  fun i al ar lt hi t x hx h3=>by
  rw[hh] at hx
  exact h.lnd i al ar lt (hb i al ar lt hi) t x hx (ho _ (h.tgs x (mOg hx)).1 h3),by rw[hh];exact h.hds⟩
theorem Bags.kept{hp:List Ob}{M:Mp}{w:World}(h:Bags hp M w){i:Nat}{al:List Bool}{ar:List Ar}{lt:List (Nat×Nat)}(hi:hp[i]?=some (.bag al ar lt)){x:Tg}(hk:Kept M lt x):¬ obOwn hp M x.b:=
 fun ho=>let ⟨t,h1,h2⟩:=hk;let ⟨id,h3⟩:=h.lnd i al ar lt hi t x h1 ho;h2 id h3
abbrev KeepT(hp:List Ob)(M:Mp)(w w':World):Prop:=∀ x:Tg,some x∈M.h→¬ obOwn hp M x.b→w'.heap[x.b]?=w.heap[x.b]?
theorem Bags.kp{hp:List Ob}{M M':Mp}{w w':World}(h:Bags hp M w)(ht:KeepT hp M w w')(e:M'.h=M.h){i:Nat}{o:Ob}(hi:hp[i]?=some o):∀ al ar lt,o=.bag al ar lt→M'.h=M.h∧∀ x:Tg,some x∈M.h→Kept M lt x→w'.heap[x.b]?=w.heap[x.b]?:=
 fun al ar lt ho=>⟨e,fun x hx hk=>ht x hx (h.kept (ho▸hi) hk)⟩
theorem Bags.ht{hp:List Ob}{M:Mp}{w w':World}(h:Bags hp M w)(ht:KeepT hp M w w'):∀ x:Tg,some x∈M.h→0<x.sz→w'.heap[x.b]?=w.heap[x.b]?:=fun x hx hz=>ht x hx ((h.tgs x hx).2 hz)
def Ob.isBag:Ob→Bool
 | .bag _ _ _=>true
 | _=>false
theorem Kvf{hp:List Ob}{id:Nat}{o:Ob}(ho:o.isBag=false)(i:Nat)(al:List Bool)(ar:List Ar)(lt:List (Nat×Nat))(h:(hp.set id o)[i]?=some (.bag al ar lt)):hp[i]?=some (.bag al ar lt):=by
 by_cases hi:id=i
 ·subst hi
  have hl:id<hp.length:=by have:=(gEs.1 h).1;simpa using this
  rw[List.getElem?_set_self hl] at h
  cases h;cases ho
 rw[List.getElem?_set_ne hi] at h;exact h
theorem Kvg{hp:List Ob}{o:Ob}(ho:o.isBag=false)(i:Nat)(al:List Bool)(ar:List Ar)(lt:List (Nat×Nat))(h:(hp++[o])[i]?=some (.bag al ar lt)):hp[i]?=some (.bag al ar lt):=by
 by_cases hi:i<hp.length
 ·rw[gAl hi] at h;exact h
 rw[List.getElem?_append_right (by omega)] at h
 cases hk:i - hp.length with
 | zero=>rw[hk] at h;simp at h;subst h;cases ho
 | succ k=>rw[hk] at h;simp at h
theorem Kvh{hp:List Ob}{f:Ob→Ob}(hf:∀ o al ar lt,f o=.bag al ar lt→o=.bag al ar lt)(i:Nat)(al:List Bool)(ar:List Ar)(lt:List (Nat×Nat))(h:(hp.map f)[i]?=some (.bag al ar lt)):hp[i]?=some (.bag al ar lt):=by
 rw[List.getElem?_map] at h
 obtain⟨o,h1,h2⟩:=oMs.1 h
 rw[h1,hf o al ar lt h2]
theorem hasBag.of{hp hp':List Ob}(h:hasBag hp')(hb:∀ (i:Nat) (al:List Bool) (ar:List Ar) (lt:List (Nat×Nat)),hp'[i]?=some (.bag al ar lt)→hp[i]?=some (.bag al ar lt)):hasBag hp:=let ⟨i,al,ar,lt,h1⟩:=h;⟨i,al,ar,lt,hb i al ar lt h1⟩
theorem Kvi{Z Z':Env}{hp hp':List Ob}{M M':Mp}(h:∀ b,(own hp M b∨Z.v b) ↔ (own hp' M' b∨Z'.v b))(hh:M.h=M'.h):ownZ Z hp M=ownZ Z' hp' M':=by
 have e:(fun b=>(own hp M).o b∨Z.v b)=fun b=>(own hp' M').o b∨Z'.v b:=by funext b;exact propext (h b)
 show(⟨_,M.h,True⟩:Ow)=⟨_,M'.h,True⟩
 rw[hh]
 exact congrArg (fun f=>(⟨f,M'.h,True⟩:Ow)) e
structure RelH(Z:Env)(hp:List Ob)(M:Mp)(w:World):Prop where
 len:M.l.length=hp.length
 obj:∀ (i:Nat) (o:Ob) (m:Option (Nat×Nat)),hp[i]?=some o→M.l[i]?=some m→ObR w (ownZ Z hp M) M o m
 apart:∀ b,own hp M b→¬ Z b
 old:∀ b,Z b→b<w.heap.size
 amb:Z.x w
 inj:∀ (i j:Nat) (oi oj:Ob) (b c c':Nat),hp[i]?=some oi→hp[j]?=some oj→oi.live=true→oj.live=true→M.l[i]?=some (some (b,c))→M.l[j]?=some (some (b,c'))→i=j
 bags:Bags hp M w
structure Stp(w:World)(A:Ow)(w':World)(A':Ow):Prop where
 size:w.heap.size≤w'.heap.size
 keep:∀ b,b<w.heap.size→¬ A b→w'.heap[b]?=w.heap[b]?
 own:∀ b,b<w.heap.size→A' b→A b
 os:w'.os=w.os
 tape:w'.tape=w.tape
 output:w'.output=w.output
 tg:∃ e,A'.h=A.h++e∧∀ x:Tg,some x∈e→x.b<w.heap.size→A x.b
 fz:∀ x:Tg,some x∈A.h→∀ k,k<x.n * x.sz→w'.cell? ⟨x.b,k,none⟩=w.cell? ⟨x.b,k,none⟩
 nb:¬ A.g→¬ A'.g∧A'.h=A.h
theorem Stp.refl(w:World)(O:Ow):Stp w O w O:=⟨Nat.le_refl _,fun _ _ _=>rfl,fun _ _ h=>h,rfl,rfl,rfl,⟨[],by simp,fun _ h=>by simp at h⟩,fun _ _ _ _=>rfl,fun h=>⟨h,rfl⟩⟩
theorem Stp.still{w:World}{A A':Ow}(own:∀ b,b<w.heap.size→A' b→A b)(hh:A'.h=A.h)(hg:A'.g→A.g):Stp w A w A':=
 ⟨Nat.le_refl _,fun _ _ _=>rfl,own,rfl,rfl,rfl,⟨[],by simp[hh],fun _ h=>by simp at h⟩,fun _ _ _ _=>rfl,fun h=>⟨fun g=>h (hg g),hh⟩⟩
theorem Stp.mk'{w w':World}{A A':Ow}(size:w.heap.size≤w'.heap.size)(keep:∀ b,b<w.heap.size→¬ A b→w'.heap[b]?=w.heap[b]?)(own:∀ b,b<w.heap.size→A' b→A b)(os:w'.os=w.os)(tape:w'.tape=w.tape)(output:w'.output=w.output)
  (hh:A'.h=A.h) (hg:A'.g→A.g) (ht:∀ x:Tg,some x∈A.h→0<x.sz→w'.heap[x.b]?=w.heap[x.b]?):Stp w A w' A':=
 ⟨size,keep,own,os,tape,output,⟨[],by simp[hh],fun _ h=>by simp at h⟩,fun x hx k hk=>World.cell?_of_block (ht x hx (Nat.pos_of_ne_zero fun e=>by rw[e,Nat.mul_zero] at hk;exact absurd hk (Nat.not_lt_zero _))),fun h=>⟨fun g=>h (hg g),hh⟩⟩
theorem Ow.safe.step{w w':World}{A A':Ow}(h:Stp w A w' A'){b k:Nat}(hb:b<w.heap.size)(hs:A.safe b k):A'.safe b k:=fun h1=>
 let ⟨x,h2,h3⟩:=hs (h.own b hb h1);let ⟨e,he,_⟩:=h.tg;⟨x,by rw[he];exact List.mem_append_left _ h2,h3⟩
theorem Ow.safe.cell{w w':World}{A A':Ow}(h:Stp w A w' A'){b k:Nat}(hb:b<w.heap.size)(hs:A.safe b k):w'.cell? ⟨b,k,none⟩=w.cell? ⟨b,k,none⟩:=by
 by_cases ho:A.o b
 ·obtain⟨x,h2,rfl,h4⟩:=hs ho
  exact h.fz x h2 k h4
 exact World.cell?_of_block (h.keep b hb ho)
theorem Ow.Tag.step{w w':World}{A A':Ow}(h:Stp w A w' A'){te:TypeId}{sz n:Nat}{v:Value}:∀ {t:Nat},A.Tag te sz n v t→A'.Tag te sz n v t
 | 0,_=>trivial
 | 1,ht=>ht
 | t+2,ht=>by
  obtain⟨e,he,_⟩:=h.tg
  have key:∀ x,A.h[t]?=some x→A'.h[t]?=some x:=fun x hx=>by rw[he,gAl (gEs.1 hx).1];exact hx
  exact ht.imp (fun ⟨h1,h2⟩=>⟨key _ h1,h2⟩) fun ⟨x,h1,h2⟩=>⟨x,key _ h1,h2⟩
theorem Ow.Hd.step{w w':World}{A A':Ow}(h:Stp w A w' A'){k:Option Nat}{v:Value}:∀ {t:Nat},A.Hd k v t→A'.Hd k v t
 | 0,ht=>ht
 | t+1,⟨x,h1,h2⟩=>by
  obtain⟨e,he,_⟩:=h.tg
  exact⟨x,by rw[he,gAl (gEs.1 h1).1];exact h1,h2⟩
theorem Ow.Rv.step{w w':World}{A A':Ow}(h:Stp w A w' A'){te:TypeId}{sz n:Nat}{v:Value}:∀ {t:Nat},A.Rv te sz n v t→A'.Rv te sz n v t
 | 0,ht=>ht
 | t+1,⟨x,h1,h2⟩=>by
  obtain⟨e,he,_⟩:=h.tg
  exact⟨x,by rw[he,gAl (gEs.1 h1).1];exact h1,h2⟩
theorem Ow.Rv.one{O:Ow}{te:TypeId}{sz n:Nat}{v:Value}:∀ {t:Nat},O.Rv te sz n v t→v.oneCell'=true
 | 0,ht=>by cases ht.2;rfl
 | t+1,⟨x,_,_,_,_,_,_,_,_,h2⟩=>by cases h2;rfl
theorem Ow.Hd.one{O:Ow}{k:Option Nat}{v:Value}:∀ {t:Nat},O.Hd k v t→v.oneCell'=true
 | 0,ht=>by cases k<;>cases ht<;>rfl
 | t+1,⟨x,h1,_,h2⟩=>by cases k<;>cases h2<;>rfl
theorem Stp.trans{w O w1 O1 w2 O2}(h:Stp w O w1 O1)(k:Stp w1 O1 w2 O2):Stp w O w2 O2:=
 ⟨Nat.le_trans h.size k.size,
  fun b hb hO=>(k.keep b (nLl hb h.size) (fun h1=>hO (h.own b hb h1))).trans (h.keep b hb hO),
  fun b hb h2=>h.own b hb (k.own b (nLl hb h.size) h2),
  k.os.trans h.os,k.tape.trans h.tape,k.output.trans h.output,
  let ⟨e,he,h1⟩:=h.tg;let ⟨e',he',k1⟩:=k.tg;⟨e++e',by rw[he',he,List.append_assoc],fun x hx hb=>(List.mem_append.1 hx).elim (fun hx=>h1 x hx hb) fun hx=>h.own _ hb (k1 x hx (nLl hb h.size))⟩,
  fun x hx j hj=>(k.fz x (by obtain⟨e,he,_⟩:=h.tg;rw[he];exact List.mem_append_left _ hx) j hj).trans (h.fz x hx j hj),
  fun g=>let ⟨h1,h2⟩:=h.nb g;let ⟨k1,k2⟩:=k.nb h1;⟨k1,k2.trans h2⟩⟩
theorem Stp.beside{w A w' A'}(h:Stp w A w' A')(Z:Nat→Prop):Stp w ⟨fun b=>A b∨Z b,A.h,True⟩ w' ⟨fun b=>A' b∨Z b,A'.h,True⟩:=
 ⟨h.size,fun b hb hO=>h.keep b hb fun h1=>hO (.inl h1),fun b hb h1=>h1.imp (h.own b hb) id,h.os,h.tape,h.output,let ⟨e,h1,h2⟩:=h.tg;⟨e,h1,fun x hx hb=>.inl (h2 x hx hb)⟩,h.fz,fun g=>absurd trivial g⟩
theorem Kvj{w w':World}{hp hp':List Ob}{M M':Mp}(Z:Env)(h:Stp w (Gk.own hp M) w' (Gk.own hp' M')):Stp w (ownZ Z hp M) w' (ownZ Z hp' M'):=h.beside Z.v
theorem RelH.amb_stp{Z:Env}{hp:List Ob}{M:Mp}{w w':World}{A':Ow}(hr:RelH Z hp M w)(h:Stp w (Gk.own hp M) w' A'):Z.x w':=
 Z.st w w' (fun b hb=>h.keep b (hr.old b hb) fun ho=>hr.apart b ho hb) hr.amb
theorem VD.step{w O w' O'}(h:Stp w O w' O'){x:D}{v:Value}(hv:VD w O x v):VD w' O' x v:=by
 induction hv with
 | v x h1=>exact .v x h1
 | nil=>exact .nil
 | ro n xs b off cap vs hb hO hn hm hc _ ih=>
  refine .ro n xs b off cap vs (nLl hb h.size) (fun j hj=>(hO j hj).step h hb) hn hm (fun j d hd=>?_) ih
  rw[←hc j d hd]
  exact(hO j (gEs.1 hd).1).cell h hb
 | rf n xs b off vs hb hO hm hc _ ih=>
  refine .rf n xs b off vs (nLl hb h.size) (fun j hj=>(hO j hj).step h hb) hm (fun j d hd=>?_) ih
  rw[←hc j d hd]
  exact(hO j (gEs.1 hd).1).cell h hb
 | rt te sz t n xs v _ ht ih=>exact .rt te sz t n xs v ih (ht.step h)
 | hd k t v ht=>exact .hd k t v (ht.step h)
 | rv te sz t n v ht=>exact .rv te sz t n v (ht.step h)
theorem DV.step{w O w' O'}(h:Stp w O w' O'){agg:Bool}{ds:List D}{v:Value}(hv:DV w O agg ds v):DV w' O' agg ds v:=by
 cases agg with
 | true=>exact let ⟨cs,h1,h2,h3⟩:=hv;⟨cs,h1,h2,fun j d u hd hu=>(h3 j d u hd hu).step h⟩
 | false=>exact let ⟨d,h1,h2⟩:=hv;⟨d,h1,h2.step h⟩
theorem VD.one{w O}{x:D}{v:Value}(hv:VD w O x v):v.oneCell'=true:=by
 induction hv<;>first | assumption | rfl | (rename_i h;exact h.one)
theorem VR.step{w O w' O'}{M M':Mp}(h:Stp w O w' O')(hM:∀ i,i<M.l.length→M'.l[i]?=M.l[i]?){g:G}{v:Value}(hv:VR w O M g v):VR w' O' M' g v:=by
 have hM':∀ i x,M.l[i]?=some x→M'.l[i]?=some x:=fun i x hx=>(hM i (gEs.1 hx).1).trans hx
 induction hv with
 | d hd=>exact .d (hd.step h)
 | agg hl _ ih=>exact .agg hl ih
 | ptr hp=>exact .ptr (hM' _ _ hp)
 | rp vs hb hO hc hv=>
  refine .rp vs (nLl hb h.size) (fun j hj=>(hO j hj).step h hb) (fun j d hd=>?_) (fun j d hd=>(hv j d hd).step h)
  rw[←hc j d hd]
  exact(hO j (gEs.1 hd).1).cell h hb
 | sl hp hn hm=>exact .sl (hM' _ _ hp) hn hm
 | slnil hp=>exact .slnil (hM' _ _ hp)
 | slo hp hn hm=>exact .slo (hM' _ _ hp) hn hm
 | slonil hp=>exact .slonil (hM' _ _ hp)
 | map hp=>exact .map (hM' _ _ hp)
 | fn l1 l2 _ _ i1 i2=>exact .fn l1 l2 i1 i2
 | tup hl _ ih=>exact .tup hl ih
 | junk v=>exact .junk v
structure Rel(Z:Env)(hp:List Ob)(M:Mp)(w:World)(fr:Fr)(a:Act)(N:Nat):Prop where
 heap:RelH Z hp M w
 fr:∀ t g,fr.get t=some g→∃ v,a.tmps[t]?=some v∧VR w (ownZ Z hp M) M g v
 size:a.tmps.size=N
 defers:a.defers=[]
structure Agr(F:Nat)(M M':Mp):Prop where
 le:F≤M'.l.length
 eq:∀ i,i<F→M'.l[i]?=M.l[i]?
theorem Agr.trans{F F':Nat}{M M1 M2:Mp}(h:Agr F M M1)(k:Agr F' M1 M2)(hF:F≤F'):Agr F M M2:=
 ⟨Nat.le_trans hF k.le,fun i hi=>(k.eq i (nLl hi hF)).trans (h.eq i hi)⟩
abbrev GPost:=Exit→Fr→List Ob→Prop
def Post(Z:Env)(F N:Nat)(Q:GPost)(w0:World)(O0:Ow)(M0:Mp)(e:Exit)(a:Act)(w:World):Prop:=
 ∃ fr hp M,Q e fr hp∧Rel Z hp M w fr a N∧Stp w0 O0 w (own hp M)∧Agr F M0 M
def EW(P:Program)(F N:Nat)(c:Code)(Q:GPost)(fr:Fr)(hp:List Ob):Prop:=
 ∀ Z w0 O0 M0 w M a,Stp w0 O0 w (own hp M)→Agr F M0 M→Rel Z hp M w fr a N→c.wp P (Post Z F N Q w0 O0 M0) a w
def EO(P:Program)(F N:Nat)(ops:Array Oper)(l:List Oper)(Q:GPost)(fr:Fr)(hp:List Ob):Prop:=
 ∀ Z w0 O0 M0 w M a,Stp w0 O0 w (own hp M)→Agr F M0 M→Rel Z hp M w fr a N→wpList P ops (Post Z F N Q w0 O0 M0) l a w
def EC(P:Program)(f:FuncId)(gs:List G)(hp:List Ob)(R:G→List Ob→Prop):Prop:=
 ∀ Z w M (vs:Array Value),RelH Z hp M w→vs.size=gs.length→(∀ (j:Nat) (g:G) (v:Value),gs[j]?=some g→vs[j]?=some v→VR w (ownZ Z hp M) M g v)→
  Calls P f vs w fun e w'=>∃ v g hp' M',e=.returned v∧R g hp'∧RelH Z hp' M' w'∧VR w' (ownZ Z hp' M') M' g v∧Stp w (own hp M) w' (own hp' M')∧Agr hp.length M M'
theorem EC.mono{P f gs hp}{R R':G→List Ob→Prop}(h:EC P f gs hp R)(hr:∀ g hp',R g hp'→R' g hp'):EC P f gs hp R':=by
 intro Z w M vs h1 h2 h3
 refine(h Z w M vs h1 h2 h3).mono ?_
 rintro e w' ⟨v,g,hp',M',he,hR,rest⟩
 exact⟨v,g,hp',M',he,hr _ _ hR,rest⟩
section
variable{P:Program}{F N:Nat}{Q:GPost}{fr:Fr}{hp:List Ob}
abbrev GThen(K:Fr→List Ob→Prop)(Q:GPost):GPost:=fun e fr hp=>match e with | .normal=>K fr hp | e=>Q e fr hp
abbrev GBlock(id:Nat)(Q:GPost):GPost:=fun e fr hp=>match e with | .exit i=>bif Nat.beq i id then Q .normal fr hp else Q (.exit i) fr hp | e=>Q e fr hp
theorem Kvk{x y:Code}(h:EW P F N x (GThen (EW P F N y Q) Q) fr hp):EW P F N (.seq x y) Q fr hp:=by
 intro Z w0 O0 M0 w M a hs ha hr
 refine wp_seq (wp_mono (h Z w0 O0 M0 w M a hs ha hr) ?_)
 rintro e a w ⟨fr,hp,M,hq,r1,r2,r3⟩
 cases e with
 | normal=>exact hq Z w0 O0 M0 w M a r2 r3 r1
 | _=>exact⟨fr,hp,M,hq,r1,r2,r3⟩
theorem Kvl(h:Q .normal fr hp):EW P F N .skip Q fr hp:=fun _ _ _ _ _ M _ hs ha hr=>wp_skip ⟨fr,hp,M,h,hr,hs,ha⟩
theorem Kvm(h:Q .ret fr hp):EW P F N .ret Q fr hp:=fun _ _ _ _ _ M _ hs ha hr=>wp_ret ⟨fr,hp,M,h,hr,hs,ha⟩
theorem Kvn{id:Nat}(h:Q (.exit id) fr hp):EW P F N (.exit id) Q fr hp:=fun _ _ _ _ _ M _ hs ha hr=>wp_exit ⟨fr,hp,M,h,hr,hs,ha⟩
theorem Kvo{id:Nat}{c:Code}(h:EW P F N c (GBlock id Q) fr hp):EW P F N (.block id c) Q fr hp:=by
 intro Z w0 O0 M0 w M a hs ha hr
 refine wp_block (wp_mono (h Z w0 O0 M0 w M a hs ha hr) ?_)
 rintro e a w ⟨fr,hp,M,hq,r1,r2,r3⟩
 cases e with
 | exit i=>
  simp only[GBlock] at hq
  by_cases hi:i=id
  ·subst hi
   simp only[Exit.inBlock,if_true]
   simp at hq
   exact⟨fr,hp,M,hq,r1,r2,r3⟩
  simp only[Exit.inBlock,if_neg hi]
  have:Nat.beq i id=false:=by
   cases hb:Nat.beq i id with
   | false=>rfl
   | true=>exact absurd (nEq hb) hi
  rw[this] at hq
  exact⟨fr,hp,M,hq,r1,r2,r3⟩
 | _=>exact⟨fr,hp,M,hq,r1,r2,r3⟩
theorem Kvp{c:Code}{Q':GPost}(h:EW P F N c Q fr hp)(hq:∀ e fr hp,Q e fr hp→Q' e fr hp):EW P F N c Q' fr hp:=
 fun Z w0 O0 M0 w M a hs ha hr=>wp_mono (h Z w0 O0 M0 w M a hs ha hr) fun _ _ _ ⟨fr,hp,M,q,r⟩=>⟨fr,hp,M,hq _ _ _ q,r⟩
theorem Kvq{t:Tmp}{x y:Code}{b:Bool}(hb:fr.get t=some (.d (.v (.bool b))))(h1:b=true→EW P F N x Q fr hp)(h2:b=false→EW P F N y Q fr hp) :
  EW P F N (.cond (.tmp t) x y) Q fr hp:=by
 intro Z w0 O0 M0 w M a hs ha hr
 obtain⟨v,hv,hvr⟩:=hr.fr _ _ hb
 have hev:a.eval (.tmp t)=.bool b:=by
  cases hvr with
  | d hd=>cases hd with
   | v=>simp[Act.eval,hv]
 exact wp_cond_split hev (fun e=>h1 e Z w0 O0 M0 w M a hs ha hr) (fun e=>h2 e Z w0 O0 M0 w M a hs ha hr)
theorem Kvr{t:Tmp}{x y:Code}(hb:fr.get t=some (.d (.v (.bool true))))(h1:EW P F N x Q fr hp):EW P F N (.cond (.tmp t) x y) Q fr hp:=Kvq hb (fun _=>h1) (fun h=>by cases h)
theorem Kvs{t:Tmp}{x y:Code}(hb:fr.get t=some (.d (.v (.bool false))))(h1:EW P F N y Q fr hp):EW P F N (.cond (.tmp t) x y) Q fr hp:=Kvq hb (fun h=>by cases h) (fun _=>h1)
def Fr.Sub:Fr→Fr→Prop
 | [],_=>True
 | (t,g) :: r,fr=>fr.get t=some g∧Fr.Sub r fr
theorem Fr.Sub.get{a b:Fr}(h:a.Sub b):∀ t g,a.get t=some g→b.get t=some g:=by
 induction a with
 | nil=>intro t g hg;cases hg
 | cons x r ih=>
  obtain⟨k,g0⟩:=x
  intro t g hg
  simp only[Fr.get] at hg
  cases hk:Nat.beq k t with
  | true=>
   rw[hk] at hg
   have:=nEq hk
   subst this
   cases hg
   exact h.1
  | false=>
   rw[hk] at hg
   exact ih h.2 t g hg
theorem Rel.sub{Z:Env}{M:Mp}{w:World}{a:Act}{fr2:Fr}(h:Rel Z hp M w fr a N)(hs:fr2.Sub fr):Rel Z hp M w fr2 a N:=
 ⟨h.heap,fun t g hg=>h.fr t g (hs.get t g hg),h.size,h.defers⟩
theorem Kvt{c:Code}(fr2:Fr)(hs:fr2.Sub fr)(h:EW P F N c Q fr2 hp):EW P F N c Q fr hp:=
 fun Z w0 O0 M0 w M a hs' ha hr=>h Z w0 O0 M0 w M a hs' ha (hr.sub hs)
end
theorem nblt{a b:Nat}:Nat.blt a b=true ↔ a<b:=by rw[Nat.blt_eq]
mutual
def G.bel(k:Nat):G→Bool
 | .d _ | .rp _ | .junk=>true
 | .ptr id _ | .sl id _ | .slo id _ _ _ | .map id=>Nat.blt id k
 | .agg gs | .tup gs=>G.belAll k gs
 | .fn _ a b=>G.belAll k a&&G.belAll k b
def G.belAll(k:Nat):List G→Bool
 | []=>true
 | g :: r=>G.bel k g&&G.belAll k r
end
def Ob.bel(k:Nat):Ob→Bool
 | .box _ gs=>G.belAll k gs
 | .row _ _ _ _=>true
 | .map _ _ _=>true
 | .iter mid _ _=>Nat.blt mid k
 | .siter _ _=>true
 | .bag _ _ lt=>lt.all fun a=>Nat.blt a.2 k
 | .dead=>true
def HB(k:Nat)(hp:List Ob):Prop:=∀ (i:Nat) (o:Ob),hp[i]?=some o→o.bel k=true
def Fr.FB(k:Nat):Fr→Prop
 | []=>True
 | (_,g) :: r=>g.bel k=true∧Fr.FB k r
theorem HB.mk{k:Nat}{hp:List Ob}(h:hp.all (Ob.bel k)=true):HB k hp:=fun i o ho=>List.all_eq_true.1 h o (mOg ho)
theorem FB.mk{k:Nat}:∀ {fr:Fr},(fr.all fun p=>p.2.bel k)=true→fr.FB k
 | [],_=>trivial
 | (t,g) :: r,h=>by
  simp only[List.all_cons,Bool.and_eq_true] at h
  exact⟨h.1,FB.mk h.2⟩
theorem G.belAll_spec{k:Nat}:∀ {gs:List G},G.belAll k gs=true ↔ ∀ (j:Nat) (g:G),gs[j]?=some g→g.bel k=true
 | []=>by simp[G.belAll]
 | g :: r=>by
  simp only[G.belAll,Bool.and_eq_true]
  constructor
  ·rintro⟨h1,h2⟩ j g' hg
   cases j with
   | zero=>simp at hg;exact hg▸h1
   | succ j=>exact G.belAll_spec.1 h2 j g' (by simpa using hg)
  intro h
  exact⟨h 0 g (by simp),G.belAll_spec.2 fun j g' hg=>h (j+1) g' (by simpa using hg)⟩
theorem Fr.FB.get{k:Nat}:∀ {fr:Fr},fr.FB k→∀ t g,fr.get t=some g→g.bel k=true
 | [],_,_,_,h=>by cases h
 | (k0,g0) :: r,hf,t,g,h=>by
  simp only[Fr.get] at h
  cases hk:Nat.beq k0 t with
  | true=>rw[hk] at h;cases h;exact hf.1
  | false=>rw[hk] at h;exact Fr.FB.get hf.2 t g h
theorem Mp.lt{M:Mp}{i:Nat}{x}(h:M.l[i]?=some x):i<M.l.length:=(gEs.1 h).1
theorem VR.bel{w O M}{g:G}{v:Value}(h:VR w O M g v):g.bel M.l.length=true:=by
 induction h with
 | d _=>rfl
 | rp _ _ _ _ _=>rfl
 | junk _=>rfl
 | ptr h=>exact nblt.2 (Mp.lt h)
 | sl h _ _=>exact nblt.2 (Mp.lt h)
 | slnil h=>exact nblt.2 (Mp.lt h)
 | slo h _ _=>exact nblt.2 (Mp.lt h)
 | slonil h=>exact nblt.2 (Mp.lt h)
 | map h=>exact nblt.2 (Mp.lt h)
 | agg hl _ ih=>
  refine G.belAll_spec.2 fun j g hg=>?_
  have:j<_:=(gEs.1 hg).1
  exact ih j g _ hg (Array.getElem?_eq_getElem (by omega))
 | tup hl _ ih=>
  refine G.belAll_spec.2 fun j g hg=>?_
  have:j<_:=(gEs.1 hg).1
  exact ih j g _ hg (Array.getElem?_eq_getElem (by omega))
 | fn l1 l2 _ _ i1 i2=>
  simp only[G.bel,Bool.and_eq_true]
  constructor
  ·refine G.belAll_spec.2 fun j g hg=>?_
   have:j<_:=(gEs.1 hg).1
   exact i1 j g _ hg (Array.getElem?_eq_getElem (by omega))
  refine G.belAll_spec.2 fun j g hg=>?_
  have:j<_:=(gEs.1 hg).1
  exact i2 j g _ hg (Array.getElem?_eq_getElem (by omega))
theorem VR.move{w O w' O'}{M M':Mp}{k:Nat}(h:Stp w O w' O')(hM:∀ i,i<k→M'.l[i]?=M.l[i]?){g:G}{v:Value}(hv:VR w O M g v)(hb:g.bel k=true):VR w' O' M' g v:=by
 induction hv with
 | d hd=>exact .d (hd.step h)
 | agg hl _ ih=>exact .agg hl fun j g v hg hv=>ih j g v hg hv (G.belAll_spec.1 hb j g hg)
 | ptr hp=>exact .ptr ((hM _ (nblt.1 hb)).trans hp)
 | rp vs hb' hO hc hv=>
  refine .rp vs (nLl hb' h.size) (fun j hj=>(hO j hj).step h hb') (fun j d hd=>?_) (fun j d hd=>(hv j d hd).step h)
  rw[←hc j d hd]
  exact(hO j (gEs.1 hd).1).cell h hb'
 | sl hp hn hm=>exact .sl ((hM _ (nblt.1 hb)).trans hp) hn hm
 | slnil hp=>exact .slnil ((hM _ (nblt.1 hb)).trans hp)
 | slo hp hn hm=>exact .slo ((hM _ (nblt.1 hb)).trans hp) hn hm
 | slonil hp=>exact .slonil ((hM _ (nblt.1 hb)).trans hp)
 | map hp=>exact .map ((hM _ (nblt.1 hb)).trans hp)
 | fn l1 l2 _ _ i1 i2=>
  simp only[G.bel,Bool.and_eq_true] at hb
  exact .fn l1 l2 (fun j g v hg hv=>i1 j g v hg hv (G.belAll_spec.1 hb.1 j g hg)) (fun j g v hg hv=>i2 j g v hg hv (G.belAll_spec.1 hb.2 j g hg))
 | tup hl _ ih=>exact .tup hl fun j g v hg hv=>ih j g v hg hv (G.belAll_spec.1 hb j g hg)
 | junk v=>exact .junk v
theorem ObR.bel{w O M o m}(h:ObR w O M o m):o.bel M.l.length=true:=by
 cases o with
 | dead=>rfl
 | bag al ar lt=>
  match m,h with
  | none,⟨_,_,_,_,_,h4⟩=>
   refine List.all_eq_true.2 fun a ha=>?_
   exact let ⟨x,c,_,_,h1⟩:=h4 a.1 a.2 ha;nblt.2 (Mp.lt h1)
 | map _ es st=>rfl
 | siter _ _=>rfl
 | iter mid cl seen=>
  match m,h with
  | some (b,c),⟨bm,c',h1,_⟩=>exact nblt.2 (Mp.lt h1)
 | box t gs=>
  match m,h with
  | some (b,c),⟨cs,_,_,hc⟩=>
   exact G.belAll_spec.2 fun j g hg=>let ⟨v,_,_,hv⟩:=hc j g hg;hv.bel
 | row t sz n ds=>rfl
theorem RelH.hb{Z hp M w}(h:RelH Z hp M w):HB hp.length hp:=by
 intro i o ho
 have hi:i<hp.length:=(gEs.1 ho).1
 have:=h.obj i o (M.l[i]'(by rw[h.len];exact hi)) ho (gGe _)
 rw[←h.len]
 exact this.bel
theorem CellsR.move{w O w' O'}{M M':Mp}{k:Nat}(h:Stp w O w' O')(hM:∀ i,i<k→M'.l[i]?=M.l[i]?){cs:Array Value}{gs:List G}(hc:CellsR w O M cs gs)(hb:G.belAll k gs=true):CellsR w' O' M' cs gs:=
 fun j g hg=>let ⟨v,h1,h2,h3⟩:=hc j g hg;⟨v,h1,h2,h3.move h hM (G.belAll_spec.1 hb j g hg)⟩
theorem MapR.move{w O w' O'}(h:Stp w O w' O'){agg:Bool}{es:List (Value×List D)}{st}{b:Nat}(hm:MapR w O agg es st b)(hblk:w'.heap[b]?=w.heap[b]?):MapR w' O' agg es st b:=
 let ⟨ms,cl,es',h1,p1,p2,p3,h2,h3,hc⟩:=hm;⟨ms,cl,es',hblk.trans h1,p1,p2,p3,h2,h3,fun j k g hg=>let ⟨e,e1,e2,e3⟩:=hc j k g hg;⟨e,e1,e2,e3.step h⟩⟩
theorem DataR.move{w O w' O'}(h:Stp w O w' O'){cs:Array Value}{ds:List D}(hc:DataR w O cs ds):DataR w' O' cs ds:=fun j d hd=>let ⟨v,e1,e2⟩:=hc j d hd;⟨v,e1,e2.step h⟩
theorem ArR.move{w O w' O'}(h:Stp w O w' O'){M M':Mp}{a:Ar}(ha:ArR w O M a)(h1:∀ (t:Nat) (x:Tg),M.h[t]?=some (some x)→M'.h[t]?=some (some x))(h2:∀ x:Tg,M.h[a.t]?=some (some x)→w'.heap[x.b]?=w.heap[x.b]?):ArR w' O' M' a:=by
 cases a with
 | map t agg es=>exact let ⟨x,e1,e2,e3⟩:=ha;⟨x,h1 _ _ e1,e2,e3.move h (h2 x e1)⟩
 | box t ty ds=>exact let ⟨x,e1,e2,cs,e3,e4,e5⟩:=ha;⟨x,h1 _ _ e1,e2,cs,(h2 x e1).trans e3,e4,e5.move h⟩
 | row t ty sz n ds=>exact let ⟨x,e1,e2,e3,cs,e4,e5,e6,e7⟩:=ha;⟨x,h1 _ _ e1,e2,e3,cs,(h2 x e1).trans e4,e5,e6,e7.move h⟩
theorem ObR.bag_move{w w':World}{O O':Ow}{M M':Mp}{al:List Bool}{ar:List Ar}{lt:List (Nat×Nat)}(hs:Stp w O w' O')(h:ObR w O M (.bag al ar lt) none)(h1:M'.h=M.h)(h2:∀ x:Tg,some x∈M.h→Kept M lt x→w'.heap[x.b]?=w.heap[x.b]?)
  (h3:∀ t id:Nat,(t,id)∈lt→M'.l[id]?=M.l[id]?):ObR w' O' M' (.bag al ar lt) none:=by
 obtain⟨e1,e2,e3,e4,e5,e6⟩:=h
 refine⟨by rw[h1];exact e1,fun t x ha hx=>?_,fun t t' x x' ha hx hx' hb=>?_,fun a ha=>⟨ArR.move hs (e4 a ha).1 (fun t x h=>by rw[h1];exact h) fun x hx=>h2 x (mOg hx) ⟨a.t,hx,(e4 a ha).2.1⟩,(e4 a ha).2⟩,e5,fun t id hm=>?_⟩
 ·rw[h1] at hx
  obtain⟨hz,cs,k1,k2⟩:=e2 t x ha hx
  refine⟨hz,cs,(h2 x (mOg hx) ⟨t,hx,fun id hm=>?_⟩).trans k1,k2⟩
  obtain⟨x',c,q1,q2,_⟩:=e6 t id hm
  rw[hx] at q1
  cases q1
  omega
 ·rw[h1] at hx hx'
  exact e3 t t' x x' ha hx hx' hb
 ·obtain⟨x,c,q1,q2,q3⟩:=e6 t id hm
  exact⟨x,c,by rw[h1];exact q1,q2,(h3 t id hm).trans q3⟩
theorem Ob.bel_lent{k:Nat}{al:List Bool}{ar:List Ar}{lt:List (Nat×Nat)}(h:(Ob.bag al ar lt).bel k=true){t id:Nat}(hm:(t,id)∈lt):id<k:=nblt.1 (List.all_eq_true.1 h _ hm)
theorem ObR.move{w O w' O'}{M M':Mp}{k:Nat}(h:Stp w O w' O')(hM:∀ i,i<k→M'.l[i]?=M.l[i]?){o:Ob}{m}(ho:ObR w O M o m)(hb:o.bel k=true)
  (hblk:∀ b c,m=some (b,c)→o.live=true→w'.heap[b]?=w.heap[b]?) (hbag:∀ al ar lt,o=.bag al ar lt→M'.h=M.h∧∀ x:Tg,some x∈M.h→Kept M lt x→w'.heap[x.b]?=w.heap[x.b]?):ObR w' O' M' o m:=by
 cases o with
 | dead=>trivial
 | bag al ar lt=>
  match m,ho with
  | none,ho=>exact ObR.bag_move h ho (hbag al ar lt rfl).1 (hbag al ar lt rfl).2 fun t id hm=>hM id (Ob.bel_lent hb hm)
 | map agg es st=>
  match m,ho with
  | some (b,c),hm=>exact MapR.move h hm (hblk b c rfl rfl)
 | siter s pos=>
  match m,ho with
  | some (b,c),h1=>exact(hblk b c rfl rfl).trans h1
 | iter mid cl seen=>
  match m,ho with
  | some (b,c),⟨bm,c',h1,h2⟩=>exact⟨bm,c',(hM _ (nblt.1 hb)).trans h1,(hblk b c rfl rfl).trans h2⟩
 | box t gs=>
  match m,ho with
  | some (b,c),⟨cs,h1,h2,hc⟩=>exact⟨cs,(hblk b c rfl rfl).trans h1,h2,hc.move h hM hb⟩
 | row t sz n gs=>
  match m,ho with
  | some (b,c),⟨h0,cs,h1,h2,h3,h4,hc⟩=>exact⟨h0,cs,(hblk b c rfl rfl).trans h1,h2,h3,h4,fun j d hd=>let ⟨v,e1,e2⟩:=hc j d hd;⟨v,e1,e2.step h⟩⟩
  | none,h=>exact h
theorem hasBag.app{hp ex:List Ob}(h:hasBag hp):hasBag (hp++ex):=let ⟨i,al,ar,lt,h1⟩:=h;⟨i,al,ar,lt,by rw[gAl (gEs.1 h1).1];exact h1⟩
theorem Kvu{hp ex:List Ob}{M:Mp}(b:Nat)(h:obOwn hp (M.take hp.length) b):obOwn (hp++ex) M b:=by
 obtain⟨i,o,c,h1,h2,h3⟩:=h
 have hi:i<hp.length:=(gEs.1 h1).1
 refine⟨i,o,c,by rw[gAl hi];exact h1,h2,?_⟩
 rw[List.getElem?_take_of_lt hi] at h3
 exact h3
theorem Kvv{hp ex:List Ob}{M:Mp}(b:Nat)(h:own hp (M.take hp.length) b):own (hp++ex) M b:=Kve h (Kvu b) hasBag.app rfl
theorem RelH.cut{Z:Env}{hp ex:List Ob}{M:Mp}{w:World}(h:RelH Z (hp++ex) M w)(hb:HB hp.length hp):RelH Z hp (M.take hp.length) w:=by
 have hle:hp.length≤M.l.length:=by rw[h.len];simp
 have st:Stp w (ownZ Z (hp++ex) M) w (ownZ Z hp (M.take hp.length)):=Kvj Z (.still (fun b _ hb=>Kvv b hb) rfl hasBag.app)
 refine⟨by simp[hle],fun i o m ho hm=>?_,fun b hb'=>h.apart b (Kvv b hb'),h.old,h.amb,fun i j oi oj b c c' hi hj li lj mi mj=>?_,h.bags.mono rfl (Nat.le_refl _) (fun b _=>Kvu b) fun i al ar lt hi=>by rw[gAl (gEs.1 hi).1];exact hi⟩
 ·have hi:i<hp.length:=(gEs.1 ho).1
  rw[List.getElem?_take_of_lt hi] at hm
  exact(h.obj i o m (by rw[gAl hi];exact ho) hm).move (k:=hp.length) st (fun j hj=>List.getElem?_take_of_lt hj) (hb i o ho) (fun _ _ _ _=>rfl) (fun _ _ _ _=>⟨rfl,fun _ _ _=>rfl⟩)
 have hi':i<hp.length:=(gEs.1 hi).1
 have hj':j<hp.length:=(gEs.1 hj).1
 rw[List.getElem?_take_of_lt hi'] at mi
 rw[List.getElem?_take_of_lt hj'] at mj
 exact h.inj i j oi oj b c c' (by rw[gAl hi'];exact hi) (by rw[gAl hj'];exact hj) li lj mi mj
theorem Rel.cut{Z:Env}{hp ex:List Ob}{M:Mp}{w:World}{fr:Fr}{a:Act}{N:Nat}(h:Rel Z (hp++ex) M w fr a N)(hb:HB hp.length hp)(hf:fr.FB hp.length):Rel Z hp (M.take hp.length) w fr a N:=by
 refine⟨h.heap.cut hb,fun t g hg=>?_,h.size,h.defers⟩
 obtain⟨v,hv,hr⟩:=h.fr t g hg
 exact⟨v,hv,hr.move (k:=hp.length) (Kvj Z (.still (fun b _ hb=>Kvv b hb) rfl hasBag.app)) (fun j hj=>List.getElem?_take_of_lt hj) (hf.get t g hg)⟩
theorem Kvw{w0:World}{O0:Ow}{w:World}{hp ex:List Ob}{M:Mp}(h:Stp w0 O0 w (own (hp++ex) M)):Stp w0 O0 w (own hp (M.take hp.length)):=
 ⟨h.size,h.keep,fun b hb ho=>h.own b hb (Kvv b ho),h.os,h.tape,h.output,h.tg,h.fz,fun g=>⟨fun k=>(h.nb g).1 k.app,(h.nb g).2⟩⟩
theorem Agr.cut{F k:Nat}{M0 M:Mp}(h:Agr F M0 M)(hk:F≤k)(hl:k≤M.l.length):Agr F M0 (M.take k):=
 ⟨by simp;omega,fun i hi=>by rw[List.getElem?_take_of_lt (by omega)];exact h.eq i hi⟩
section
variable{P:Program}{F N:Nat}{Q:GPost}{fr:Fr}{hp:List Ob}
theorem Kvx{c:Code}{ex:List Ob}(hb:HB hp.length hp)(hf:fr.FB hp.length)(hF:F≤hp.length)(h:EW P F N c Q fr hp):EW P F N c Q fr (hp++ex):=
 fun Z w0 O0 M0 w M a hs ha hr=>h Z w0 O0 M0 w _ a (Kvw hs) (ha.cut hF (by rw[hr.heap.len];simp)) (hr.cut hb hf)
theorem Kvy{c:Code}(I:Nat→Fr→List Ob→Prop)(n:Nat)(h0:I n fr hp)
  (round:∀ n fr hp,I n fr hp→EW P F N c (GThen (fun fr' hp'=>∃ n' fr2 hp2 ex,n'<n∧I n' fr2 hp2∧fr2.Sub fr'∧hp'=hp2++ex∧(ex=[]∨(HB hp2.length hp2∧fr2.FB hp2.length∧F≤hp2.length))) Q) fr hp):EW P F N (.loop c) Q fr hp:=by
 intro Z w0 O0 M0 w M a hs ha hr
 refine wp_loop_ghost (fun n a w=>∃ fr hp M,I n fr hp∧Stp w0 O0 w (own hp M)∧Agr F M0 M∧Rel Z hp M w fr a N) n ⟨fr,hp,M,h0,hs,ha,hr⟩ ?_
 rintro n a w ⟨fr,hp,M,hI,hs,ha,hr⟩
 refine wp_mono (round n fr hp hI Z w0 O0 M0 w M a hs ha hr) ?_
 rintro e a w ⟨fr,hp,M,hq,r1,r2,r3⟩
 cases e with
 | normal=>
  obtain⟨n',fr2,hp2,ex,hlt,hI',hsub,rfl,hx⟩:=hq
  refine⟨n',hlt,fr2,hp2,?_⟩
  rcases hx with rfl | ⟨b1,b2,b3⟩
  ·rw[List.append_nil] at r1 r2
   exact⟨M,hI',r2,r3,r1.sub hsub⟩
  ·exact⟨_,hI',Kvw r2,r3.cut b3 (by rw[r1.heap.len];simp),(r1.sub hsub).cut b1 b2⟩
 | _=>exact⟨fr,hp,M,hq,r1,r2,r3⟩
def Res(P:Program)(fn:Func)(fr:Fr)(hp:List Ob)(g:G):Prop:=
 ∀ Z M w a N,Rel Z hp M w fr a N→∃ v,(results fn a.tmps).run P w=.ok v w∧VR w (ownZ Z hp M) M g v
def Ret(P:Program)(fn:Func)(n0:Nat)(R:G→List Ob→Prop):GPost:=fun e fr hp'=>(e=.normal∨e=.ret)∧
 ∃ hp2 ex g,hp'=hp2++ex∧R g hp2∧n0≤hp2.length∧(ex=[]∨HB hp2.length hp2∧g.bel hp2.length=true)∧Res P fn fr hp' g
theorem Kvz{f:FuncId}{fn:Func}{c:Code}{gs:List G}{R:G→List Ob→Prop}(fr0:Fr)(hf:P.funcs[f]?=some fn)(hb:fn.body=some c)
  (hfr:∀ t g,fr0.get t=some g→gs[t]?=some g) (hN:gs.length≤fn.ntmps)
  (h:HB hp.length hp→EW P hp.length fn.ntmps c (Ret P fn hp.length R) fr0 hp):EC P f gs hp R:=by
 intro Z w M vs hr hsz hvs
 refine calls_of_wp hf hb ?_
 have hfr':Rel Z hp M w fr0 { tmps:=vs++Array.replicate (fn.ntmps - vs.size) undef,defers:=[] } fn.ntmps:=by
  refine⟨hr,fun t g hg=>?_,by simp;omega,rfl⟩
  have hg':=hfr t g hg
  have ht:t<gs.length:=(gEs.1 hg').1
  refine⟨vs[t]'(by omega),?_,hvs t g _ hg' (Array.getElem?_eq_getElem (by omega))⟩
  rw[Array.getElem?_append_left (by omega),Array.getElem?_eq_getElem]
 refine wp_mono (h hr.hb Z w (own hp M) M w M _ (Stp.refl _ _) ⟨Nat.le_of_eq hr.len.symm,fun _ _=>rfl⟩ hfr') ?_
 rintro e a w' ⟨fr,hp',M',⟨he,hp2,ex,g,rfl,hR,hle,hx,hres⟩,r1,r2,r3⟩
 obtain⟨v,hrun,hvr⟩:=hres _ _ _ _ _ r1
 have fin:∃ v' g hp' M',Ending.returned v=.returned v'∧R g hp'∧RelH Z hp' M' w'∧VR w' (ownZ Z hp' M') M' g v'∧Stp w (own hp M) w' (own hp' M')∧Agr hp.length M M':=by
  rcases hx with rfl | ⟨hx,hgb⟩
  ·rw[List.append_nil] at r1 r2 hvr
   exact⟨v,g,hp2,M',rfl,hR,r1.heap,hvr,r2,r3⟩
  ·refine⟨v,g,hp2,_,rfl,hR,r1.heap.cut hx,hvr.move (k:=hp2.length) (Kvj Z (.still (fun b _ hb=>Kvv b hb) rfl hasBag.app)) (fun j hj=>List.getElem?_take_of_lt hj) hgb,Kvw r2,r3.cut hle (by rw[r1.heap.len];simp)⟩
 rcases he with rfl | rfl
 ·exact⟨r1.defers,v,hrun,fin⟩
 ·exact⟨r1.defers,v,hrun,fin⟩
end
end Go.Gk
namespace Go.Gk
structure TI where
 desc:TypeDesc
 size:Nat
 bytes:Nat
 zero:Value
def TOK(P:Program)(Γ:TypeId→Option TI):Prop:=
 ∀ t i,Γ t=some i→P.underlying t=some i.desc∧∃ inf,P.info? t=some inf∧inf.size=i.size∧inf.bytes=i.bytes∧inf.zero=some i.zero
def nilD:Value→D
 | .slice none 0 0=>.ro 0 []
 | x=>.v x
theorem Kwa{w O}(x:Value)(h:x.oneCell'=true):VD w O (nilD x) x:=by
 unfold nilD
 split
 ·exact .nil
 exact .v _ h
def constG:Value→Option G
 | .agg cs=>bif cs.toList.all (·.oneCell') then some (.agg (cs.toList.map fun c=>.d (nilD c))) else none
 | .slice none 0 0=>some (.d (.ro 0 []))
 | .tuple _=>none
 | .int k n=>some (.d (.v (.int k n)))
 | .bool b=>some (.d (.v (.bool b)))
 | .string b=>some (.d (.v (.string b)))
 | x=>some (.d (.v x))
def Fr.ev(fr:Fr):Operand→Option G
 | .tmp t=>fr.get t
 | .const x=>constG x
 | .global g=>some (.d (.v (.pointer (some ⟨g,0,none⟩))))
 | .func f=>some (.fn (.func f) [] [])
theorem vr_v{w O M}{a v:Value}(h:VR w O M (.d (.v a)) v):v=a:=by
 cases h with
 | d h=>cases h;rfl
theorem Kwb{w O M}{c:Value}{g:G}(h:constG c=some g):VR w O M g c:=by
 unfold constG at h
 split at h
 ·rename_i cs
  cases hb:cs.toList.all (·.oneCell') with
  | false=>rw[hb] at h;cases h
  | true=>
   rw[hb] at h
   cases h
   refine .agg (by simp) fun j g v hg hv=>?_
   have hv':cs.toList[j]?=some v:=by simpa using hv
   rw[List.getElem?_map,hv'] at hg
   cases hg
   exact .d (Kwa v (List.all_eq_true.1 hb v (mOg hv')))
 ·cases h;exact .d .nil
 ·cases h
 ·cases h;exact .d (.v _ rfl)
 ·cases h;exact .d (.v _ rfl)
 ·cases h;exact .d (.v _ rfl)
 rename_i x h1 h2 h3 h4 h5 h6
 cases h
 refine .d (.v _ ?_)
 cases c<;>first | rfl | (exact absurd rfl (h1 _)) | (exact absurd rfl (h3 _))
section
variable{Z:Env}{hp:List Ob}{M:Mp}{w:World}{fr:Fr}{a:Act}{N:Nat}
theorem Rel.ev(h:Rel Z hp M w fr a N){x:Operand}{g:G}(hx:fr.ev x=some g):VR w (ownZ Z hp M) M g (a.eval x):=by
 cases x with
 | tmp t=>
  obtain⟨v,hv,hr⟩:=h.fr t g hx
  have:a.eval (.tmp t)=v:=by simp[Act.eval,hv]
  rw[this];exact hr
 | const c=>exact Kwb hx
 | global g'=>cases hx;exact .d (.v _ rfl)
 | func f=>cases hx;exact .fn rfl rfl (fun _ _ _ h _=>by simp at h) (fun _ _ _ h _=>by simp at h)
theorem Rel.ev_v(h:Rel Z hp M w fr a N){x:Operand}{c:Value}(hx:fr.ev x=some (.d (.v c))):a.eval x=c:=vr_v (h.ev hx)
theorem Rel.put(h:Rel Z hp M w fr a N){d:Tmp}{g:G}{v:Value}(hd:d<N)(hv:VR w (ownZ Z hp M) M g v):Rel Z hp M w ((d,g) :: fr) (a.put (some d) v) N:=by
 refine⟨h.heap,fun t g' hg=>?_,by simp[Act.put,h.size],h.defers⟩
 simp only[Fr.get] at hg
 cases hk:Nat.beq d t with
 | true=>
  rw[hk] at hg
  have:=nEq hk
  subst this
  cases hg
  exact⟨v,by simp[Act.put,h.size,hd],hv⟩
 | false=>
  rw[hk] at hg
  obtain⟨v',h1,h2⟩:=h.fr t g' hg
  have hne:d≠t:=fun e=>by subst e;rw[Nat.beq_refl] at hk;cases hk
  exact⟨v',by simp only[Act.put];rw[Array.getElem?_setIfInBounds_ne hne];exact h1,h2⟩
theorem Rel.later{hp' M' w'}(h:Rel Z hp M w fr a N)(hh:RelH Z hp' M' w')(hs:Stp w (own hp M) w' (own hp' M'))(hA:Agr hp.length M M'):Rel Z hp' M' w' fr a N:=
 ⟨hh,fun t g hg=>let ⟨v,h1,h2⟩:=h.fr t g hg;⟨v,h1,h2.step (Kvj Z hs) (fun i hi=>hA.eq i (by rw[←h.heap.len];exact hi))⟩,h.size,h.defers⟩
end
def OpS(P:Program)(N:Nat)(o:Oper)(fr:Fr)(hp:List Ob)(g:G)(hp':List Ob):Prop:=
 ∀ Z w M a,Rel Z hp M w fr a N→∃ v w' M',(execOp a.eval o).run P w=.ok (.value v) w'∧RelH Z hp' M' w'∧VR w' (ownZ Z hp' M') M' g v∧Stp w (own hp M) w' (own hp' M')∧Agr hp.length M M'
def OpU(P:Program)(N:Nat)(o:Oper)(fr:Fr)(hp:List Ob)(hp':List Ob):Prop:=
 ∀ Z w M a,Rel Z hp M w fr a N→∃ w' M',(execOp a.eval o).run P w=.ok .skip w'∧RelH Z hp' M' w'∧Stp w (own hp M) w' (own hp' M')∧Agr hp.length M M'
def OpP(P:Program)(N:Nat)(o:Oper)(fr:Fr)(hp:List Ob)(g:G):Prop:=
 ∀ Z w M a,Rel Z hp M w fr a N→∃ v,(execOp a.eval o).run P w=.ok (.value v) w∧VR w (ownZ Z hp M) M g v
theorem OpP.s{P N o fr hp g}(h:OpP P N o fr hp g):OpS P N o fr hp g hp:=fun Z w M a hr=>
 let ⟨v,h1,h2⟩:=h Z w M a hr;⟨v,w,M,h1,hr.heap,h2,.refl _ _,⟨Nat.le_of_eq hr.heap.len.symm,fun _ _=>rfl⟩⟩
section
variable{P:Program}{F N:Nat}{ops:Array Oper}{rest:List Oper}{Q:GPost}{fr:Fr}{hp hp':List Ob}{g:G}
variable{op:Op}{d:Tmp}{ty:TypeId}{pos:String}{after:Array Edge}
theorem Kwc(h:Q .normal fr hp):EO P F N ops [] Q fr hp:=fun Z w0 O0 M0 w M a hs ha hr=>wpList_nil ⟨fr,hp,M,h,hr,hs,ha⟩
theorem eo_s(hF:F≤hp.length)(hd:d<N)(ho:OpS P N ⟨some d,op,ty,pos,after,none⟩ fr hp g hp')(h:EO P F N ops rest Q ((d,g) :: fr) hp') :
  EO P F N ops (⟨some d,op,ty,pos,after,none⟩ :: rest) Q fr hp:=by
 intro Z w0 O0 M0 w M a hs ha hr
 refine wpList_plain rfl fun K hK=>?_
 obtain⟨v,w',M',hrun,h1,h2,h3,h4⟩:=ho Z w M a hr
 unfold Oper.wp
 rw[hrun,Oper.upon_value]
 exact hK _ _ (h Z w0 O0 M0 w' M' _ (hs.trans h3) (ha.trans h4 hF) ((hr.later h1 h3 h4).put hd h2))
theorem eo_p(hd:Nat.blt d N=true)(ho:OpP P N ⟨some d,op,ty,pos,after,none⟩ fr hp g)(h:EO P F N ops rest Q ((d,g) :: fr) hp) :
  EO P F N ops (⟨some d,op,ty,pos,after,none⟩ :: rest) Q fr hp:=by
 intro Z w0 O0 M0 w M a hs ha hr
 refine wpList_plain rfl fun K hK=>?_
 obtain⟨v,hrun,h2⟩:=ho Z w M a hr
 unfold Oper.wp
 rw[hrun,Oper.upon_value]
 exact hK _ _ (h Z w0 O0 M0 w M _ hs ha (hr.put (nblt.1 hd) h2))
theorem eo_u(hF:F≤hp.length)(ho:OpU P N ⟨none,op,ty,pos,after,none⟩ fr hp hp')(h:EO P F N ops rest Q fr hp') :
  EO P F N ops (⟨none,op,ty,pos,after,none⟩ :: rest) Q fr hp:=by
 intro Z w0 O0 M0 w M a hs ha hr
 refine wpList_plain rfl fun K hK=>?_
 obtain⟨w',M',hrun,h1,h3,h4⟩:=ho Z w M a hr
 unfold Oper.wp
 rw[hrun,Oper.upon_skip]
 exact hK _ _ (h Z w0 O0 M0 w' M' _ (hs.trans h3) (ha.trans h4 hF) (hr.later h1 h3 h4))
def Fr.guard(fr:Fr)(ops:Array Oper)(j:Nat)(want:Bool):Option Bool:=
 match ((ops[j]?).bind (·.dst)).bind fr.get with
 | some (.d (.v (.bool b)))=>some (b==want)
 | some (.tup [])=>some false
 | _=>none
theorem Kwd{Z M w a}(hr:Rel Z hp M w fr a N){j:Nat}{want b:Bool}(h:fr.guard ops j want=some b):(yielded ops a.tmps j==some want)=b:=by
 unfold Fr.guard at h
 unfold yielded
 cases ht:(ops[j]?).bind (·.dst) with
 | none=>rw[ht] at h;simp at h
 | some t=>
  rw[ht] at h
  simp only[Option.bind_some] at h ⊢
  cases hg:fr.get t with
  | none=>rw[hg] at h;simp at h
  | some g=>
   obtain⟨v,hv,hvr⟩:=hr.fr t g hg
   rw[hg] at h
   rw[hv]
   split at h
   ·rename_i b' e
    cases e
    rw[vr_v hvr]
    simpa using h
   ·rename_i e
    cases e
    cases hvr with
    | tup hl _=>
     simpa using h
   cases h
theorem Kwe{j:Nat}{want:Bool}(hg:fr.guard ops j want=some false)(hd:Nat.blt d N=true)(h:EO P F N ops rest Q ((d,.tup []) :: fr) hp) :
  EO P F N ops (⟨some d,op,ty,pos,after,some (j,want)⟩ :: rest) Q fr hp:=by
 intro Z w0 O0 M0 w M a hs ha hr
 have hw:Region.wanted ⟨some d,op,ty,pos,after,some (j,want)⟩ (yielded ops a.tmps)=false:=Kwd hr hg
 unfold wpList
 rw[hw]
 exact h Z w0 O0 M0 w M _ hs ha (hr.put (nblt.1 hd) (.tup rfl fun _ _ _ h _=>by simp at h))
theorem Kwf{dst:Option Tmp}{j:Nat}{want:Bool}(hg:fr.guard ops j want=some true)(h:EO P F N ops (⟨dst,op,ty,pos,after,none⟩ :: rest) Q fr hp) :
  EO P F N ops (⟨dst,op,ty,pos,after,some (j,want)⟩ :: rest) Q fr hp:=by
 intro Z w0 O0 M0 w M a hs ha hr
 have hw:Region.wanted ⟨dst,op,ty,pos,after,some (j,want)⟩ (yielded ops a.tmps)=true:=Kwd hr hg
 have:=h Z w0 O0 M0 w M a hs ha hr
 unfold wpList at this ⊢
 rw[hw]
 exact this
theorem Kwg(t:Tmp){b:Bool}{l:List Oper}(hb:fr.get t=some (.d (.v (.bool b))))(h1:b=true→EO P F N ops l Q ((t,.d (.v (.bool true))) :: fr) hp)(h2:b=false→EO P F N ops l Q ((t,.d (.v (.bool false))) :: fr) hp) :
  EO P F N ops l Q fr hp:=by
 intro Z w0 O0 M0 w M a hs ha hr
 have key:∀ c,b=c→Rel Z hp M w ((t,.d (.v (.bool c))) :: fr) a N:=by
  rintro c rfl
  refine⟨hr.heap,fun t' g hg=>?_,hr.size,hr.defers⟩
  simp only[Fr.get] at hg
  cases hk:Nat.beq t t' with
  | true=>rw[hk] at hg;have:=nEq hk;subst this;cases hg;exact hr.fr t _ hb
  | false=>rw[hk] at hg;exact hr.fr t' g hg
 cases b
 ·exact h2 rfl Z w0 O0 M0 w M a hs ha (key false rfl)
 ·exact h1 rfl Z w0 O0 M0 w M a hs ha (key true rfl)
theorem Kwh{dst:Option Tmp}{j:Nat}{want:Bool}{t:Tmp}{b:Bool}(hj:(ops[j]?).bind (·.dst)=some t)(hb:fr.get t=some (.d (.v (.bool b))))
  (h1:b=true→EO P F N ops (⟨dst,op,ty,pos,after,some (j,want)⟩ :: rest) Q ((t,.d (.v (.bool true))) :: fr) hp) (h2:b=false→EO P F N ops (⟨dst,op,ty,pos,after,some (j,want)⟩ :: rest) Q ((t,.d (.v (.bool false))) :: fr) hp) :
  EO P F N ops (⟨dst,op,ty,pos,after,some (j,want)⟩ :: rest) Q fr hp:=Kwg t hb h1 h2
theorem Kwi{id:Nat}{l:List Oper}(h:EO P F N l.toArray l Q fr hp):EW P F N (.region id l.toArray false) Q fr hp:=
 fun Z w0 O0 M0 w M a hs ha hr=>wp_region_lit (h Z w0 O0 M0 w M a hs ha hr)
end
end Go.Gk
namespace Go.Gk
def TypeDesc.isAgg:TypeDesc→Bool
 | .struct _ | .array _ _=>true
 | _=>false
def bitsV(op:BinOp)(k:IntKind)(a b:Int):Int:=
 match op with
 | .and=>k.wrap (BitVec.ofInt k.bits a&&& BitVec.ofInt k.bits b).toNat
 | .or=>k.wrap (BitVec.ofInt k.bits a||| BitVec.ofInt k.bits b).toNat
 | .xor=>k.wrap (BitVec.ofInt k.bits a ^^^ BitVec.ofInt k.bits b).toNat
 | _=>k.wrap (BitVec.ofInt k.bits a&&& ~~~BitVec.ofInt k.bits b).toNat
def shlV(k:IntKind)(a:Int)(n:Nat):Int:=k.wrap (a * 2 ^ min n k.bits)
def shrV(k:IntKind)(a:Int)(n:Nat):Int:=a.fdiv (2 ^ min n k.bits)
def binI(op:BinOp)(k k':IntKind)(a b:Int):Option Value:=
 match op with
 | .shl=>match b with | .ofNat n=>some (.int k (shlV k a n)) | _=>none
 | .shr=>match b with | .ofNat n=>some (.int k (shrV k a n)) | _=>none
 | op=>if k=k' then
   match op with
   | .add=>some (.int k (k.wrap (a+b)))
   | .sub=>some (.int k (k.wrap (a - b)))
   | .mul=>some (.int k (k.wrap (a * b)))
   | .eql=>some (.bool (a==b))
   | .neq=>some (.bool (a != b))
   | .lss=>some (.bool (decide (a<b)))
   | .leq=>some (.bool (decide (a≤b)))
   | .gtr=>some (.bool (decide (a>b)))
   | .geq=>some (.bool (decide (a≥b)))
   | .and=>some (.int k (bitsV .and k a b))
   | .or=>some (.int k (bitsV .or k a b))
   | .xor=>some (.int k (bitsV .xor k a b))
   | .andNot=>some (.int k (bitsV .andNot k a b))
   | _=>none
  else none
def binV(op:BinOp):Value→Value→Option Value
 | .int k a,.int k' b=>binI op k k' a b
 | .string ⟨⟨a⟩⟩,.string ⟨⟨b⟩⟩=>
  match op with
  | .eql=>some (.bool (a==b))
  | .neq=>some (.bool !(a==b))
  | .lss=>some (.bool (Op.bytesLess a b))
  | .leq=>some (.bool (Op.bytesLess a b||a==b))
  | .gtr=>some (.bool !(Op.bytesLess a b||a==b))
  | .geq=>some (.bool !(Op.bytesLess a b))
  | _=>none
 | _,_=>none
theorem toList_mk'(l:List UInt8):(⟨⟨l⟩⟩:ByteArray).toList=l:=ByteArray.toList_mk l
theorem Kwj{P:Program}{op:BinOp}{t:TypeId}{x y:Operand}{k k':IntKind}{a b:Int}{c:Value}(h:binI op k k' a b=some c)(w:World) :
  ((do eqGuard op t x y (.int k a) (.int k' b);binOp op t (.int k a) (.int k' b):Sem Value)).run P w=.ok c w:=by
 unfold binI at h
 split at h
 ·split at h
  ·cases h
   rename_i n
   have h0:¬ ((Int.ofNat n)<0):=by simp
   simp[eqGuard,binOp,Op.shift,shlV]
   omega
  ·cases h
 ·split at h
  ·cases h
   rename_i n
   simp[eqGuard,binOp,Op.shift,shrV]
   omega
  ·cases h
 ·split at h
  ·rename_i hk
   subst hk
   cases op<;>simp at h<;>subst h<;>simp[eqGuard,binOp,Op.intArith,Op.intCmp,Op.intBits,bitsV]
  ·cases h
theorem Kwk{P:Program}{op:BinOp}{t:TypeId}{x y:Operand}{a b c:Value}(h:binV op a b=some c)(w:World) :
  ((do eqGuard op t x y a b;binOp op t a b:Sem Value)).run P w=.ok c w:=by
 unfold binV at h
 split at h
 ·exact Kwj h w
 ·cases op<;>simp at h<;>subst h<;>simp[eqGuard,binOp,Op.stringOp,toList_mk']
 ·cases h
theorem Kwl{op:BinOp}{k k':IntKind}{a b:Int}{c:Value}(h:binI op k k' a b=some c):c.oneCell'=true:=by
 unfold binI at h
 split at h
 ·split at h
  ·cases h;rfl
  cases h
 ·split at h
  ·cases h;rfl
  cases h
 split at h
 ·cases op<;>simp at h<;>subst h<;>rfl
 cases h
theorem Kwm{op:BinOp}{a b c:Value}(h:binV op a b=some c):c.oneCell'=true:=by
 unfold binV at h
 split at h
 ·exact Kwl h
 ·cases op<;>simp at h<;>subst h<;>rfl
 cases h
def boolV(op:BinOp)(a b:Bool):Option Value:=
 match op with
 | .eql=>some (.bool (a==b))
 | .neq=>some (.bool !(a==b))
 | _=>none
theorem Kwn{P:Program}{t:TypeId}(w:World)(b c:Bool)(u:P.underlying t=some .bool):(Op.equalIn Op.maxDepth t (.bool b) (.bool c)).run P w=.ok (b==c) w:=by
 rw[show Op.maxDepth=(Op.maxDepth - 1)+1 by rfl]
 simp[Op.equalIn,run_underlying u]
theorem Kwo{P:Program}{op:BinOp}{t:TypeId}{x y:Operand}{a b:Bool}{c:Value}(u:P.underlying t=some .bool)(h:boolV op a b=some c)(w:World) :
  ((do eqGuard op t x y (.bool a) (.bool b);binOp op t (.bool a) (.bool b):Sem Value)).run P w=.ok c w∧c.oneCell'=true:=by
 unfold boolV at h
 cases op<;>simp at h<;>subst h<;>simp[eqGuard,binOp,Op.equal,Kwn w a b u,Value.oneCell']
def unV(op:UnOp):Value→Option Value
 | .int k n=>match op with | .neg=>some (.int k (k.wrap (0 - n))) | _=>none
 | .bool b=>match op with | .not=>some (.bool !b) | _=>none
 | _=>none
theorem Kwp{P:Program}{op:UnOp}{a c:Value}(h:unV op a=some c)(w:World):(Op.unary op a).run P w=.ok c w∧c.oneCell'=true:=by
 unfold unV at h
 split at h
 ·cases op<;>simp at h<;>subst h<;>simp[Op.unary,Op.intArith,Value.oneCell']
 ·cases op<;>simp at h<;>subst h<;>simp[Op.unary,Value.oneCell']
 cases h
def vG:Option Value→Option G
 | some c=>some (.d (.v c))
 | none=>none
theorem Kwq{o:Option Value}{g:G}(h:vG o=some g):∃ c,o=some c∧G.d (.v c)=g:=by
 cases o with
 | none=>cases h
 | some c=>exact⟨c,rfl,by cases h;rfl⟩
def partG(i:TI)(gs:List G)(off:Nat):Option G:=
 bif TypeDesc.isAgg i.desc then some (.agg ((gs.drop off).take i.size)) else(gs.drop off).head?
def loadG(i:TI)(gs:List G)(off:Nat):Option G:=
 bif TypeDesc.isAgg i.desc then bif Nat.ble (off+i.size) gs.length then some (.agg ((gs.drop off).take i.size)) else none else(gs.drop off).head?
def loadD(i:TI)(ds:List D)(off:Nat):Option G:=
 bif TypeDesc.isAgg i.desc then bif Nat.ble (off+i.size) ds.length then some (.agg (((ds.drop off).take i.size).map G.d)) else none else((ds.drop off).head?).map .d
def pst(Γ:TypeId→Option TI)(fr:Fr)(hp:List Ob):Op→Option G
 | .move x | .assign x=>fr.ev x
 | .pick c a b=>match fr.ev c with
  | some (.d (.v (.bool true)))=>fr.ev a
  | some (.d (.v (.bool false)))=>fr.ev b
  | _=>none
 | .binOp op t x y _=>match fr.ev x,fr.ev y with
  | some (.d (.v (.bool a))),some (.d (.v (.bool b)))=>match Γ t with
   | some ⟨.bool,_,_,_⟩=>vG (boolV op a b)
   | _=>none
  | some (.d (.v a)),some (.d (.v b))=>vG (binV op a b)
  | _,_=>none
 | .unOp op _ x=>match fr.ev x with
  | some (.d (.v a))=>vG (unV op a)
  | _=>none
 | .field t x f=>match Γ t,fr.ev x with
  | some ⟨.struct fs,_,_,_⟩,some (.agg gs)=>(fs[f]?).bind fun f=>(Γ f.type).bind fun i=>partG i gs f.offset
  | _,_=>none
 | .fieldAddr t x f=>match Γ t with
  | some ⟨.struct fs,_,_,_⟩=>(fs[f]?).bind fun f=>(Γ f.type).bind fun i=>
   bif Nat.beq i.size 0 then none else
   match fr.ev x with
   | some (.ptr id off)=>some (.ptr id (off+f.offset))
   | some (.rp xs)=>some (.rp (xs.drop f.offset))
   | _=>none
  | _=>none
 | .load t x=>(Γ t).bind fun i=>match fr.ev x with
  | some (.ptr id off)=>match hp[id]? with
   | some (.box _ gs)=>loadG i gs off
   | some (.row _ _ _ ds)=>loadD i ds off
   | _=>none
  | some (.rp xs)=>loadD i xs 0
  | _=>none
 | .extract t i=>match fr.ev t with
  | some (.tup gs)=>gs[i]?
  | _=>none
 | .nilCheck x=>match fr.ev x with
  | some (.ptr id off)=>some (.ptr id off)
  | some (.rp xs)=>some (.rp xs)
  | some (.fn (.func f) a b)=>some (.fn (.func f) a b)
  | _=>none
 | .convert s t x=>match Γ s,Γ t,fr.ev x with
  | some _,some ⟨.int k,_,_,_⟩,some (.d (.v (.int _ n)))=>some (.d (.v (.int k (k.wrap n))))
  | some _,some ⟨.string,_,_,_⟩,some (.d (.v (.string b)))=>some (.d (.v (.string b)))
  | _,_,_=>none
 | .makeFunc fn first cap=>((first.toList.mapM fr.ev)).bind fun a=>(cap.toList.mapM fr.ev).bind fun b=>some (.fn fn a b)
 | .call ⟨.builtin .len,⟨[x]⟩,⟨[t]⟩⟩=>match Γ t,fr.ev x with
  | some ⟨.string,_,_,_⟩,some (.d (.v (.string ⟨⟨l⟩⟩)))=>some (.d (.v (.int .i64 l.length)))
  | some ⟨.slice _,_,_,_⟩,some (.d (.v (.slice none n _)))=>some (.d (.v (.int .i64 n)))
  | some ⟨.slice _,_,_,_⟩,some (.d (.ro n _))=>some (.d (.v (.int .i64 n)))
  | some ⟨.slice _,_,_,_⟩,some (.sl _ n)=>some (.d (.v (.int .i64 n)))
  | some ⟨.slice _,_,_,_⟩,some (.slo _ _ _ n)=>some (.d (.v (.int .i64 n)))
  | _,_=>none
 | .call ⟨.builtin .min,⟨[x,y]⟩,⟨[_,_]⟩⟩=>match fr.ev x,fr.ev y with
  | some (.d (.v (.int k a))),some (.d (.v (.int _ b)))=>some (.d (.v (.int k (if b<a then b else a))))
  | _,_=>none
 | .call ⟨.builtin .max,⟨[x,y]⟩,⟨[_,_]⟩⟩=>match fr.ev x,fr.ev y with
  | some (.d (.v (.int k a))),some (.d (.v (.int _ b)))=>some (.d (.v (.int k (if b>a then b else a))))
  | _,_=>none
 | _=>none
section
variable{P:Program}{Γ:TypeId→Option TI}{N:Nat}{fr:Fr}{hp:List Ob}{g:G}{Z:Env}{M:Mp}{w:World}{a:Act}
theorem run_isAgg'{t:TypeId}{d:TypeDesc}(h:P.underlying t=some d):(isAgg t).run P w=.ok (TypeDesc.isAgg d) w:=by
 cases d<;>simp[isAgg,run_underlying h,TypeDesc.isAgg]
theorem run_size'{t:TypeId}{i:TI}(hΓ:TOK P Γ)(h:Γ t=some i):(sizeOf t).run P w=.ok i.size w:=by
 obtain⟨_,inf,h1,h2,_⟩:=hΓ t i h
 simp[sizeOf,typeInfo,h1,h2]
theorem Kwr{α:Type}(l:List α)(n:Nat):(l.drop n).head?=l[n]?:=by simp[List.head?_drop]
theorem Kws{t:TypeId}{i:TI}(hΓ:TOK P Γ)(h:Γ t=some i){gs:List G}{cs:Array Value}(hc:VR w (ownZ Z hp M) M (.agg gs) (.agg cs)){off:Nat}(hg:partG i gs off=some g) :
  ∃ v,(part t cs off).run P w=.ok v w∧VR w (ownZ Z hp M) M g v:=by
 obtain⟨hu,_⟩:=hΓ t i h
 cases hc with
 | agg hl hr=>
  unfold partG at hg
  cases hb:TypeDesc.isAgg i.desc with
  | true=>
   rw[hb] at hg
   cases hg
   refine⟨_,by simp[part,run_isAgg' hu,hb,run_size' hΓ h];rfl,?_⟩
   refine .agg (by simp;omega) fun j g v hg hv=>?_
   rw[List.getElem?_take] at hg
   split at hg
   ·rename_i hj
    rw[List.getElem?_drop] at hg
    refine hr (off+j) g v hg ?_
    rw[Array.getElem?_extract] at hv
    split at hv
    ·exact hv
    ·cases hv
   ·cases hg
  | false=>
   rw[hb] at hg
   have hg':gs[off]?=some g:=by simpa [Kwr] using hg
   have hlt:off<gs.length:=(gEs.1 hg').1
   have hv:cs[off]?=some (cs[off]'(by omega)):=Array.getElem?_eq_getElem (by omega)
   exact⟨_,by simp[part,run_isAgg' hu,hb,hv],hr off g _ hg' hv⟩
theorem Kwt{t:TypeId}{i:TI}(hΓ:TOK P Γ)(h:Γ t=some i)(b off:Nat)(gs:List G)(vs:Nat→Value)(hc:∀ j g,gs[j]?=some g→w.cell? ⟨b,j,none⟩=some (vs j))
  (hv:∀ j g,gs[j]?=some g→VR w (ownZ Z hp M) M g (vs j)) (hg:loadG i gs off=some g) :
  ∃ v,(loadVar t ⟨b,off,none⟩).run P w=.ok v w∧VR w (ownZ Z hp M) M g v:=by
 obtain⟨hu,_⟩:=hΓ t i h
 unfold loadG at hg
 cases hb:TypeDesc.isAgg i.desc with
 | true=>
  rw[hb] at hg
  cases hn:Nat.ble (off+i.size) gs.length with
  | false=>rw[hn] at hg;cases hg
  | true=>
   rw[hn] at hg
   cases hg
   have hle:off+i.size≤gs.length:=nBe hn
   have hin:∀ j,(hj:j<i.size)→gs[off+j]?=some (gs[off+j]'(by omega)):=fun j hj=>gGe (by omega)
   have hrun:=run_loadCells (P:=P) w ⟨b,off,none⟩ i.size (fun j=>vs (off+j)) (fun j hj=>by rw[Addr.add_lit];exact hc _ _ (hin j hj))
   refine⟨_,by simp[loadVar,run_isAgg' hu,hb,run_size' hΓ h,hrun];rfl,?_⟩
   refine .agg (by simp;omega) fun j g v hg hv'=>?_
   rw[List.getElem?_take] at hg
   split at hg
   ·rename_i hj
    rw[List.getElem?_drop] at hg
    have:v=vs (off+j):=by simpa [hj] using hv'.symm
    rw[this]
    exact hv _ _ hg
   ·cases hg
 | false=>
  rw[hb] at hg
  have hg':gs[off]?=some g:=by simpa [Kwr] using hg
  exact⟨_,by simp[loadVar,run_isAgg' hu,hb,hc _ _ hg'],hv _ _ hg'⟩
theorem Kwu{i:TI}{ds:List D}{off:Nat}:loadD i ds off=loadG i (ds.map G.d) off:=by
 unfold loadD loadG
 cases TypeDesc.isAgg i.desc<;>simp[List.map_take,←List.map_drop]
theorem Kwv{t:TypeId}{i:TI}(hΓ:TOK P Γ)(h:Γ t=some i){O:Ow}(hO:O=ownZ Z hp M){b c off:Nat}{o:Ob}{gs:List G}(ho:ObR w O M o (some (b,c)))
  (hgs:(∃ ty,o=.box ty gs)∨∃ ty sz n ds,o=.row ty sz n ds∧gs=ds.map G.d) (hg:loadG i gs off=some g):∃ v,(loadVar t ⟨b,off,none⟩).run P w=.ok v w∧VR w (ownZ Z hp M) M g v:=by
 subst hO
 rcases hgs with⟨ty,rfl⟩ | ⟨ty,sz,n,ds,rfl,rfl⟩
 ·obtain⟨cs,hb,hl,hcr⟩:=ho
  refine Kwt hΓ h b off gs (fun j=>cs.getD j undef) (fun j g hg=>?_) (fun j g hg=>?_) hg
  ·obtain⟨v,hv,_,_⟩:=hcr j g hg
   rw[cell_of_row w b j cs _ _ hb]
   simp[hv]
  ·obtain⟨v,hv,_,hr⟩:=hcr j g hg
   simpa [hv] using hr
 ·obtain⟨_,cs,hb,_,_,_,hcr⟩:=ho
  refine Kwt hΓ h b off _ (fun j=>cs.getD j undef) (fun j g hg=>?_) (fun j g hg=>?_) hg
  ·rw[List.getElem?_map] at hg
   obtain⟨d,hd,rfl⟩:=oMs.1 hg
   obtain⟨v,hv,_⟩:=hcr j d hd
   rw[cell_of_row w b j cs _ _ hb]
   simp[hv]
  ·rw[List.getElem?_map] at hg
   obtain⟨d,hd,rfl⟩:=oMs.1 hg
   obtain⟨v,hv,hr⟩:=hcr j d hd
   simpa [hv] using VR.d (M:=M) hr
theorem Kww{t:TypeId}{i:TI}(hΓ:TOK P Γ)(h:Γ t=some i){xs:List D}{v:Value}(hv:VR w (ownZ Z hp M) M (.rp xs) v)(hg:loadD i xs 0=some g) :
  ∃ u,(Instr.loadAt t v).run P w=.ok u w∧VR w (ownZ Z hp M) M g u:=by
 cases hv with
 | rp vs hb hO hc hv=>
  rename_i b off
  rw[Kwu] at hg
  obtain⟨hu,_⟩:=hΓ t i h
  unfold loadG at hg
  cases hb':TypeDesc.isAgg i.desc with
  | true=>
   rw[hb'] at hg
   cases hn:Nat.ble (0+i.size) (xs.map G.d).length with
   | false=>rw[hn] at hg;cases hg
   | true=>
    rw[hn] at hg
    cases hg
    have hle:i.size≤xs.length:=by have:=nBe hn;simpa using this
    have hin:∀ j,(hj:j<i.size)→xs[j]?=some (xs[j]'(by omega)):=fun j hj=>gGe (by omega)
    have hrun:=run_loadCells (P:=P) w ⟨b,off,none⟩ i.size vs (fun j hj=>by rw[Addr.add_lit];exact hc _ _ (hin j hj))
    refine⟨_,by simp[Instr.loadAt,Instr.sureAddr,loadVar,run_isAgg' hu,hb',run_size' hΓ h,hrun];rfl,?_⟩
    refine .agg (by simp;omega) fun j g v hg hv'=>?_
    rw[List.getElem?_take] at hg
    split at hg
    ·rename_i hj
     simp only[List.drop_zero,List.getElem?_map] at hg
     obtain⟨d,hd,rfl⟩:=oMs.1 hg
     have:v=vs j:=by simpa [hj] using hv'.symm
     rw[this]
     exact .d (hv _ _ hd)
    ·cases hg
  | false=>
   rw[hb'] at hg
   have hg':(xs.map G.d)[0]?=some g:=by rw[cond_false,Kwr] at hg;exact hg
   rw[List.getElem?_map] at hg'
   obtain⟨d,hd,rfl⟩:=oMs.1 hg'
   have:=hc _ _ hd
   simp only[Nat.add_zero] at this
   exact⟨_,by simp[Instr.loadAt,Instr.sureAddr,loadVar,run_isAgg' hu,hb',this],.d (hv _ _ hd)⟩
variable{d:Option Tmp}{ty:TypeId}{pos:String}{after:Array Edge}{gd:Option (Nat×Bool)}
theorem Kwx(hΓ:TOK P Γ){t:TypeId}{x:Operand}(h:pst Γ fr hp (.load t x)=some g):OpP P N ⟨d,.load t x,ty,pos,after,gd⟩ fr hp g:=by
 intro Z w M a hr
 simp only[pst] at h
 cases hi:Γ t with
 | none=>rw[hi] at h;cases h
 | some i=>
  rw[hi] at h
  simp only[Option.bind_some] at h
  cases hx:fr.ev x with
  | none=>rw[hx] at h;cases h
  | some gx=>
   rw[hx] at h
   have hvx:=hr.ev hx
   simp only[execOp]
   split at h
   ·rename_i id off e
    cases e
    generalize a.eval x=vx at hvx
    cases hvx with
    | ptr hM=>
     rename_i b c
     cases ho:hp[id]? with
     | none=>rw[ho] at h;cases h
     | some o=>
      rw[ho] at h
      have hob:=hr.heap.obj id o _ ho hM
      split at h
      ·rename_i t' gs e
       cases e
       obtain⟨v,h1,h2⟩:=Kwv (hp:=hp) hΓ hi rfl hob (.inl ⟨_,rfl⟩) h
       exact⟨v,by simp[Instr.loadAt,Instr.sureAddr,h1],h2⟩
      ·rename_i t' sz n ds e
       cases e
       rw[Kwu] at h
       obtain⟨v,h1,h2⟩:=Kwv (hp:=hp) hΓ hi rfl hob (.inr ⟨_,_,_,_,rfl,rfl⟩) h
       exact⟨v,by simp[Instr.loadAt,Instr.sureAddr,h1],h2⟩
      cases h
   ·rename_i xs e
    cases e
    obtain⟨v,h1,h2⟩:=Kww hΓ hi hvx h
    exact⟨v,by simp[h1],h2⟩
   cases h
theorem Kwy(hΓ:TOK P Γ){t:TypeId}{x:Operand}{k:Nat}(h:pst Γ fr hp (.fieldAddr t x k)=some g):OpP P N ⟨d,.fieldAddr t x k,ty,pos,after,gd⟩ fr hp g:=by
 intro Z w M a hr
 simp only[pst] at h
 split at h
 ·rename_i fs _ _ _ hi
  obtain⟨hu,_⟩:=hΓ t _ hi
  cases hf:fs[k]? with
  | none=>rw[hf] at h;cases h
  | some f=>
   rw[hf] at h
   simp only[Option.bind_some] at h
   cases hj:Γ f.type with
   | none=>rw[hj] at h;cases h
   | some i=>
    rw[hj] at h
    simp only[Option.bind_some] at h
    cases hz:Nat.beq i.size 0 with
    | true=>rw[hz] at h;cases h
    | false=>
     rw[hz] at h
     have hz':i.size≠0:=fun e=>by rw[e] at hz;cases hz
     have hsz:=run_size' (P:=P) (w:=w) hΓ hj
     cases hx:fr.ev x with
     | none=>rw[hx] at h;cases h
     | some gx=>
      rw[hx] at h
      have hvx:=hr.ev hx
      simp only[execOp]
      generalize a.eval x=vx at hvx
      cases gx<;>simp only[cond_false,Option.some.injEq,reduceCtorEq] at h
      ·subst h
       cases hvx with
       | ptr hM=>
        refine⟨_,by simp[Instr.fieldAt,Instr.sureAddr,run_underlying hu,hf,fieldPlace,hsz,hz',Addr.add_lit],.ptr hM⟩
      subst h
      cases hvx with
      | rp vs hb hO hc hv=>
       refine⟨_,by simp[Instr.fieldAt,Instr.sureAddr,run_underlying hu,hf,fieldPlace,hsz,hz',Addr.add_lit];rfl,.rp (fun j=>vs (f.offset+j)) hb (fun j hj=>by rw[Nat.add_assoc];exact hO _ (by simp at hj;omega)) (fun j d hd=>?_) (fun j d hd=>?_)⟩
       ·rw[List.getElem?_drop] at hd
        rw[Nat.add_assoc]
        exact hc _ _ hd
       rw[List.getElem?_drop] at hd
       exact hv _ _ hd
 cases h
theorem Kwz(hr:Rel Z hp M w fr a N):∀ (l:List Operand) {gs:List G},l.mapM fr.ev=some gs→gs.length=l.length∧∀ (j:Nat) (g:G),gs[j]?=some g→∃ x,l[j]?=some x∧VR w (ownZ Z hp M) M g (a.eval x)
 | [],gs,h=>by simp at h;subst h;simp
 | x :: l,gs,h=>by
  rw[List.mapM_cons] at h
  cases hx:fr.ev x with
  | none=>rw[hx] at h;simp at h
  | some g0=>
   rw[hx] at h
   cases hl:l.mapM fr.ev with
   | none=>rw[hl] at h;simp at h
   | some gs0=>
    rw[hl] at h
    simp at h
    subst h
    obtain⟨h1,h2⟩:=Kwz hr l hl
    refine⟨by simp[h1],fun j g hg=>?_⟩
    cases j with
    | zero=>simp at hg;subst hg;exact⟨x,rfl,hr.ev hx⟩
    | succ j=>exact h2 j g (by simpa using hg)
theorem Kxa(hr:Rel Z hp M w fr a N){l:Array Operand}{gs:List G}(h:l.toList.mapM fr.ev=some gs):(l.map a.eval).size=gs.length∧∀ (j:Nat) (g:G) (v:Value),gs[j]?=some g→(l.map a.eval)[j]?=some v→VR w (ownZ Z hp M) M g v:=by
 obtain⟨h1,h2⟩:=Kwz hr _ h
 refine⟨by simp[h1],fun j g v hg hv=>?_⟩
 obtain⟨x,hx,hvr⟩:=h2 j g hg
 rw[Array.getElem?_map] at hv
 have:l[j]?=some x:=by simpa using hx
 rw[this] at hv
 simp at hv
 subst hv
 exact hvr
theorem Kxb(hΓ:TOK P Γ){op:Op}(h:pst Γ fr hp op=some g):OpP P N ⟨d,op,ty,pos,after,gd⟩ fr hp g:=by
 cases op with
 | load t x=>exact Kwx hΓ h
 | fieldAddr t x f=>exact Kwy hΓ h
 | move x=>exact fun Z w M a hr=>⟨a.eval x,rfl,hr.ev h⟩
 | assign x=>exact fun Z w M a hr=>⟨a.eval x,rfl,hr.ev h⟩
 | pick c x y=>
  intro Z w M a hr
  simp only[pst] at h
  split at h
  ·rename_i hc
   exact⟨a.eval x,by simp[execOp,hr.ev_v hc,asBool],hr.ev h⟩
  ·rename_i hc
   exact⟨a.eval y,by simp[execOp,hr.ev_v hc,asBool],hr.ev h⟩
  cases h
 | binOp op t x y t'=>
  intro Z w M a hr
  simp only[pst] at h
  split at h
  ·rename_i u v hx hy
   split at h
   ·rename_i _ _ _ hi
    obtain⟨hu,_⟩:=hΓ t _ hi
    obtain⟨c,hc,rfl⟩:=Kwq h
    obtain⟨h1,h2⟩:=Kwo (P:=P) (x:=x) (y:=y) hu hc w
    refine⟨c,?_,.d (.v _ h2)⟩
    simp only[execOp,hr.ev_v hx,hr.ev_v hy]
    rw[Sem.run_bind,h1]
    rfl
   cases h
  ·rename_i u v hx hy
   obtain⟨c,hc,rfl⟩:=Kwq h
   refine⟨c,?_,.d (.v _ (Kwm hc))⟩
   simp only[execOp,hr.ev_v hx,hr.ev_v hy]
   have:=Kwk (P:=P) (t:=t) (x:=x) (y:=y) hc w
   rw[Sem.run_bind,this]
   rfl
  cases h
 | unOp op t x=>
  intro Z w M a hr
  simp only[pst] at h
  split at h
  ·rename_i u hx
   obtain⟨c,hc,rfl⟩:=Kwq h
   obtain⟨h1,h2⟩:=Kwp (P:=P) hc w
   exact⟨c,by simp[execOp,hr.ev_v hx,h1],.d (.v _ h2)⟩
  cases h
 | field t x k=>
  intro Z w M a hr
  simp only[pst] at h
  split at h
  ·rename_i fs _ _ _ gs hi hx
   obtain⟨hu,_⟩:=hΓ t _ hi
   cases hf:fs[k]? with
   | none=>rw[hf] at h;cases h
   | some f=>
    rw[hf] at h
    simp only[Option.bind_some] at h
    cases hj:Γ f.type with
    | none=>rw[hj] at h;cases h
    | some i=>
     rw[hj] at h
     simp only[Option.bind_some] at h
     have hvx:=hr.ev hx
     simp only[execOp]
     generalize a.eval x=vx at hvx
     cases hvx with
     | agg hl hv=>
      obtain⟨v,h1,h2⟩:=Kws (hp:=hp) hΓ hj (.agg hl hv) h
      exact⟨v,by simp[Instr.field,run_underlying hu,hf,asAgg,h1],h2⟩
  cases h
 | extract t i=>
  intro Z w M a hr
  simp only[pst] at h
  split at h
  ·rename_i gs hx
   have hvx:=hr.ev hx
   simp only[execOp]
   generalize a.eval t=vx at hvx
   cases hvx with
   | tup hl hv=>
    rename_i vs
    have hlt:i<gs.length:=(gEs.1 h).1
    have hv':vs[i]?=some (vs[i]'(by omega)):=Array.getElem?_eq_getElem (by omega)
    exact⟨_,by simp[Instr.extract,hv'],hv i g _ h hv'⟩
  cases h
 | nilCheck x=>
  intro Z w M a hr
  simp only[pst] at h
  split at h
  ·rename_i id off hx
   cases h
   have hvx:=hr.ev hx
   simp only[execOp]
   generalize a.eval x=vx at hvx
   cases hvx with
   | ptr hM=>exact⟨_,rfl,.ptr hM⟩
  ·rename_i xs hx
   cases h
   have hvx:=hr.ev hx
   simp only[execOp]
   generalize a.eval x=vx at hvx
   cases hvx with
   | rp vs hb hO hc hv=>exact⟨_,rfl,.rp vs hb hO hc hv⟩
  ·rename_i f g1 g2 hx
   cases h
   have hvx:=hr.ev hx
   simp only[execOp]
   generalize a.eval x=vx at hvx
   cases hvx with
   | fn l1 l2 h1 h2=>exact⟨_,rfl,.fn l1 l2 h1 h2⟩
  cases h
 | convert s t x=>
  intro Z w M a hr
  simp only[pst] at h
  split at h
  ·rename_i i k _ _ _ k' n h1 h2 h3
   cases h
   obtain⟨u1,_⟩:=hΓ s _ h1
   obtain⟨u2,_⟩:=hΓ t _ h2
   exact⟨_,by simp[execOp,convert,run_underlying u1,run_underlying u2,hr.ev_v h3,Conv.intToInt],.d (.v _ rfl)⟩
  ·rename_i i _ _ _ b h1 h2 h3
   cases h
   obtain⟨u1,_⟩:=hΓ s _ h1
   obtain⟨u2,_⟩:=hΓ t _ h2
   exact⟨_,by simp[execOp,convert,run_underlying u1,run_underlying u2,hr.ev_v h3],.d (.v _ rfl)⟩
  cases h
 | makeFunc fn first cap=>
  intro Z w M a hr
  simp only[pst] at h
  cases h1:first.toList.mapM fr.ev with
  | none=>rw[h1] at h;cases h
  | some g1=>
   rw[h1] at h
   cases h2:cap.toList.mapM fr.ev with
   | none=>rw[h2] at h;cases h
   | some g2=>
    rw[h2] at h
    cases h
    obtain⟨l1,r1⟩:=Kxa hr h1
    obtain⟨l2,r2⟩:=Kxa hr h2
    exact⟨_,rfl,.fn l1 l2 r1 r2⟩
 | call c=>
  intro Z w M a hr
  unfold pst at h
  split at h<;>(try (simp at *;done))
  ·rename_i x t e
   cases e
   split at h
   ·rename_i s hi hx
    cases h
    obtain⟨u,_⟩:=hΓ t _ hi
    exact⟨_,by simp[execOp,resolve,invoke,builtin,Builtin.len_,run_underlying u,hr.ev_v hx];rfl,.d (.v _ rfl)⟩
   ·rename_i n _ hi hx
    cases h
    obtain⟨u,_⟩:=hΓ t _ hi
    exact⟨_,by simp[execOp,resolve,invoke,builtin,Builtin.len_,run_underlying u,hr.ev_v hx];rfl,.d (.v _ rfl)⟩
   ·rename_i n xs hi hx
    cases h
    obtain⟨u,_⟩:=hΓ t _ hi
    have hvx:=hr.ev hx
    simp only[execOp,resolve]
    generalize hvv:a.eval x=vx at hvx
    cases hvx with
    | d hd=>
     cases hd with
     | nil=>exact⟨_,by simp[invoke,builtin,Builtin.len_,run_underlying u,hvv];rfl,.d (.v _ rfl)⟩
     | ro _ _ b off cap vs=>exact⟨_,by simp[invoke,builtin,Builtin.len_,run_underlying u,hvv];rfl,.d (.v _ rfl)⟩
   ·rename_i id n hi hx
    cases h
    obtain⟨u,_⟩:=hΓ t _ hi
    have hvx:=hr.ev hx
    simp only[execOp,resolve]
    generalize hvv:a.eval x=vx at hvx
    cases hvx with
    | sl hM _ _=>exact⟨_,by simp[invoke,builtin,Builtin.len_,run_underlying u,hvv];rfl,.d (.v _ rfl)⟩
    | slnil hM=>exact⟨_,by simp[invoke,builtin,Builtin.len_,run_underlying u,hvv];rfl,.d (.v _ rfl)⟩
   ·rename_i id sz o n hi hx
    cases h
    obtain⟨u,_⟩:=hΓ t _ hi
    have hvx:=hr.ev hx
    simp only[execOp,resolve]
    generalize hvv:a.eval x=vx at hvx
    cases hvx with
    | slo hM _ _=>exact⟨_,by simp[invoke,builtin,Builtin.len_,run_underlying u,hvv];rfl,.d (.v _ rfl)⟩
    | slonil hM=>exact⟨_,by simp[invoke,builtin,Builtin.len_,run_underlying u,hvv];rfl,.d (.v _ rfl)⟩
   cases h
  ·rename_i x y t t' e
   cases e
   split at h
   ·rename_i k n k' n' hx hy
    cases h
    exact⟨_,by simp[execOp,resolve,invoke,builtin,hr.ev_v hx,hr.ev_v hy,run_min_int2],.d (.v _ rfl)⟩
   cases h
  rename_i x y t t' e
  cases e
  split at h
  ·rename_i k n k' n' hx hy
   cases h
   exact⟨_,by simp[execOp,resolve,invoke,builtin,hr.ev_v hx,hr.ev_v hy,run_max_int2],.d (.v _ rfl)⟩
  cases h
 | _=>simp[pst] at h
end
end Go.Gk
namespace Go.Gk
mutual
def G.ren(f:Nat→Nat):G→G
 | .d x=>.d x
 | .agg gs=>.agg (G.renAll f gs)
 | .ptr id off=>.ptr (f id) off
 | .rp xs=>.rp xs
 | .sl id n=>.sl (f id) n
 | .slo id sz o n=>.slo (f id) sz o n
 | .map id=>.map (f id)
 | .fn k a b=>.fn k (G.renAll f a) (G.renAll f b)
 | .tup gs=>.tup (G.renAll f gs)
 | .junk=>.junk
def G.renAll(f:Nat→Nat):List G→List G
 | []=>[]
 | g :: r=>G.ren f g :: G.renAll f r
end
def Lt.ren(f:Nat→Nat)(lt:List (Nat×Nat)):List (Nat×Nat):=lt.map fun a=>(a.1,f a.2)
def Ob.ren(f:Nat→Nat):Ob→Ob
 | .box t gs=>.box t (G.renAll f gs)
 | .row t sz n ds=>.row t sz n ds
 | .map agg es st=>.map agg es st
 | .iter mid cl seen=>.iter (f mid) cl seen
 | .siter s pos=>.siter s pos
 | .bag al ar lt=>.bag al ar (Lt.ren f lt)
 | .dead=>.dead
theorem G.renAll_eq(f:Nat→Nat):∀ l:List G,G.renAll f l=l.map (G.ren f)
 | []=>rfl
 | g :: r=>by simp[G.renAll,G.renAll_eq f r]
def rn(ρ:List Nat)(L i:Nat):Nat:=match ρ[i]? with
 | some r=>r
 | none=>L+(i - ρ.length)
def upd:List Ob→List Nat→List Ob→List Ob
 | hp,r :: ρ,o :: os=>upd (hp.set r o) ρ os
 | hp,_,_=>hp
section
variable{w:World}{O:Ow}
theorem VR.ren{Mc M:Mp}{f:Nat→Nat}(hM:∀ i,i<Mc.l.length→M.l[f i]?=Mc.l[i]?){g:G}{v:Value}(h:VR w O Mc g v):VR w O M (g.ren f) v:=by
 have hM':∀ i x,Mc.l[i]?=some x→M.l[f i]?=some x:=fun i x hx=>(hM i (Mp.lt hx)).trans hx
 induction h with
 | d h=>exact .d h
 | agg hl _ ih=>
  simp only[G.ren,G.renAll_eq]
  refine .agg (by simpa using hl) fun j g v hg hv=>?_
  rw[List.getElem?_map] at hg
  obtain⟨g0,hg0,rfl⟩:=oMs.1 hg
  exact ih j g0 v hg0 hv
 | ptr h=>exact .ptr (hM' _ _ h)
 | rp vs hb hO hc hv=>exact .rp vs hb hO hc hv
 | sl h hn hm=>exact .sl (hM' _ _ h) hn hm
 | slnil h=>exact .slnil (hM' _ _ h)
 | slo h hn hm=>exact .slo (hM' _ _ h) hn hm
 | slonil h=>exact .slonil (hM' _ _ h)
 | map h=>exact .map (hM' _ _ h)
 | fn l1 l2 _ _ i1 i2=>
  simp only[G.ren,G.renAll_eq]
  refine .fn (by simpa using l1) (by simpa using l2) (fun j g v hg hv=>?_) (fun j g v hg hv=>?_)
  ·rw[List.getElem?_map] at hg
   obtain⟨g0,hg0,rfl⟩:=oMs.1 hg
   exact i1 j g0 v hg0 hv
  rw[List.getElem?_map] at hg
  obtain⟨g0,hg0,rfl⟩:=oMs.1 hg
  exact i2 j g0 v hg0 hv
 | tup hl _ ih=>
  simp only[G.ren,G.renAll_eq]
  refine .tup (by simpa using hl) fun j g v hg hv=>?_
  rw[List.getElem?_map] at hg
  obtain⟨g0,hg0,rfl⟩:=oMs.1 hg
  exact ih j g0 v hg0 hv
 | junk v=>exact .junk v
theorem VR.unren{Mc M:Mp}{f:Nat→Nat}{k:Nat}(hM:∀ i,i<k→Mc.l[i]?=M.l[f i]?){g':G}{v:Value}(h:VR w O M g' v):∀ g:G,g.ren f=g'→g.bel k=true→VR w O Mc g v:=by
 induction h with
 | d h=>intro g hg hb;cases g<;>simp only[G.ren,G.d.injEq,reduceCtorEq] at hg;subst hg;exact .d h
 | agg hl _ ih=>
  intro g hg hb
  cases g<;>simp only[G.ren,G.agg.injEq,reduceCtorEq] at hg
  subst hg
  rw[G.renAll_eq] at hl ih
  refine .agg (by simpa using hl) fun j g v hg hv=>ih j (g.ren f) v (by simp[hg]) hv g rfl (G.belAll_spec.1 hb j g hg)
 | ptr h=>
  intro g hg hb
  cases g<;>simp only[G.ren,G.ptr.injEq,reduceCtorEq] at hg
  obtain⟨rfl,rfl⟩:=hg
  exact .ptr ((hM _ (nblt.1 hb)).trans h)
 | rp vs hb hO hc hv=>
  intro g hg _
  cases g<;>simp only[G.ren,G.rp.injEq,reduceCtorEq] at hg
  subst hg
  exact .rp vs hb hO hc hv
 | sl h hn hm=>
  intro g hg hb
  cases g<;>simp only[G.ren,G.sl.injEq,reduceCtorEq] at hg
  obtain⟨rfl,rfl⟩:=hg
  exact .sl ((hM _ (nblt.1 hb)).trans h) hn hm
 | slnil h=>
  intro g hg hb
  cases g<;>simp only[G.ren,G.sl.injEq,reduceCtorEq] at hg
  obtain⟨rfl,rfl⟩:=hg
  exact .slnil ((hM _ (nblt.1 hb)).trans h)
 | slo h hn hm=>
  intro g hg hb
  cases g<;>simp only[G.ren,G.slo.injEq,reduceCtorEq] at hg
  obtain⟨rfl,rfl,rfl,rfl⟩:=hg
  exact .slo ((hM _ (nblt.1 hb)).trans h) hn hm
 | slonil h=>
  intro g hg hb
  cases g<;>simp only[G.ren,G.slo.injEq,reduceCtorEq] at hg
  obtain⟨rfl,rfl,rfl,rfl⟩:=hg
  exact .slonil ((hM _ (nblt.1 hb)).trans h)
 | map h=>
  intro g hg hb
  cases g<;>simp only[G.ren,G.map.injEq,reduceCtorEq] at hg
  subst hg
  exact .map ((hM _ (nblt.1 hb)).trans h)
 | fn l1 l2 _ _ i1 i2=>
  intro g hg hb
  cases g<;>simp only[G.ren,G.fn.injEq,reduceCtorEq] at hg
  obtain⟨rfl,rfl,rfl⟩:=hg
  simp only[G.bel,Bool.and_eq_true] at hb
  rw[G.renAll_eq] at l1 l2 i1 i2
  exact .fn (by simpa using l1) (by simpa using l2) (fun j g v hg hv=>i1 j (g.ren f) v (by simp[hg]) hv g rfl (G.belAll_spec.1 hb.1 j g hg))
   (fun j g v hg hv=>i2 j (g.ren f) v (by simp[hg]) hv g rfl (G.belAll_spec.1 hb.2 j g hg))
 | tup hl _ ih=>
  intro g hg hb
  cases g<;>simp only[G.ren,G.tup.injEq,reduceCtorEq] at hg
  subst hg
  rw[G.renAll_eq] at hl ih
  refine .tup (by simpa using hl) fun j g v hg hv=>ih j (g.ren f) v (by simp[hg]) hv g rfl (G.belAll_spec.1 hb j g hg)
 | junk v=>
  intro g hg hb
  cases g<;>simp only[G.ren,reduceCtorEq] at hg
  exact .junk v
theorem Lt.mem_ren{f:Nat→Nat}{lt:List (Nat×Nat)}{t id:Nat}:(t,id)∈Lt.ren f lt ↔ ∃ i,(t,i)∈lt∧f i=id:=by
 simp only[Lt.ren,List.mem_map,Prod.mk.injEq,Prod.exists]
 exact⟨fun ⟨a,b,h,e1,e2⟩=>⟨b,e1▸h,e2⟩,fun ⟨i,h,e⟩=>⟨t,i,h,rfl,e⟩⟩
theorem Lt.not_ren{f:Nat→Nat}{lt:List (Nat×Nat)}{t:Nat}:(∀ id,(t,id) ∉ Lt.ren f lt) ↔ ∀ id,(t,id) ∉ lt:=
 ⟨fun h id hm=>h (f id) (Lt.mem_ren.2 ⟨id,hm,rfl⟩),fun h id hm=>let ⟨i,h1,_⟩:=Lt.mem_ren.1 hm;h i h1⟩
theorem ArR.same{w:World}{O:Ow}{M M':Mp}{a:Ar}(ha:ArR w O M a)(h:M'.h=M.h):ArR w O M' a:=by
 cases a<;>(simp only[ArR] at ha ⊢;rw[h];exact ha)
theorem ObR.bag_ren{w:World}{O:Ow}{M M':Mp}{al:List Bool}{ar:List Ar}{lt lt':List (Nat×Nat)}(h:ObR w O M (.bag al ar lt) none)(h1:M'.h=M.h)(h2:∀ t,(∀ id,(t,id) ∉ lt)→∀ id,(t,id) ∉ lt')(h3:∀ t id:Nat,(t,id)∈lt'→∃ id':Nat,(t,id')∈lt∧M'.l[id]?=M.l[id']?):ObR w O M' (.bag al ar lt') none:=by
 obtain⟨e1,e2,e3,e4,e5,e6⟩:=h
 refine⟨by rw[h1];exact e1,by rw[h1];exact e2,by rw[h1];exact e3,fun a ha=>⟨(e4 a ha).1.same h1,h2 _ (e4 a ha).2.1,(e4 a ha).2.2⟩,e5,fun t id hm=>?_⟩
 obtain⟨id',k1,k2⟩:=h3 t id hm
 obtain⟨x,c,q1,q2,q3⟩:=e6 t id' k1
 exact⟨x,c,by rw[h1];exact q1,q2,k2.trans q3⟩
theorem ObR.unren{Mc M:Mp}{f:Nat→Nat}{k:Nat}(hM:∀ i,i<k→Mc.l[i]?=M.l[f i]?)(hh:Mc.h=M.h){o:Ob}{m}(h:ObR w O M (o.ren f) m)(hb:o.bel k=true):ObR w O Mc o m:=by
 cases o with
 | dead=>trivial
 | bag al ar lt=>
  match m,h with
  | none,h=>exact ObR.bag_ren h hh (fun t ht=>Lt.not_ren.1 ht) fun t id hm=>⟨f id,Lt.mem_ren.2 ⟨id,hm,rfl⟩,hM id (Ob.bel_lent hb hm)⟩
 | map _ es st=>cases m<;>exact h
 | siter _ _=>cases m<;>exact h
 | iter mid cl seen=>
  match m,h with
  | some (b,c),⟨bm,c',h1,h2⟩=>exact⟨bm,c',(hM _ (nblt.1 hb)).trans h1,h2⟩
 | row t sz n ds=>cases m<;>exact h
 | box t gs=>
  simp only[Ob.ren,G.renAll_eq] at h
  match m,h with
  | some (b,c),⟨cs,h1,h2,hc⟩=>
   refine⟨cs,h1,by simpa using h2,fun j g hg=>?_⟩
   obtain⟨v,e1,e2,e3⟩:=hc j (g.ren f) (by simp[hg])
   exact⟨v,e1,e2,e3.unren hM g rfl (G.belAll_spec.1 hb j g hg)⟩
theorem ObR.rens{Mc M:Mp}{f:Nat→Nat}(hM:∀ i,i<Mc.l.length→M.l[f i]?=Mc.l[i]?)(hh:M.h=Mc.h){o:Ob}{m}(h:ObR w O Mc o m):ObR w O M (o.ren f) m:=by
 cases o with
 | dead=>trivial
 | bag al ar lt=>
  match m,h with
  | none,h=>exact ObR.bag_ren h hh (fun t ht=>Lt.not_ren.2 ht) fun t id hm=>let ⟨i,h1,e⟩:=Lt.mem_ren.1 hm;⟨i,h1,e▸hM i (Ob.bel_lent (ObR.bel h) h1)⟩
 | map _ es st=>cases m<;>exact h
 | siter _ _=>cases m<;>exact h
 | iter mid cl seen=>
  match m,h with
  | some (b,c),⟨bm,c',h1,h2⟩=>exact⟨bm,c',(hM _ (Mp.lt h1)).trans h1,h2⟩
 | row t sz n ds=>cases m<;>exact h
 | box t gs=>
  simp only[Ob.ren,G.renAll_eq]
  match m,h with
  | some (b,c),⟨cs,h1,h2,hc⟩=>
   refine⟨cs,h1,by simpa using h2,fun j g hg=>?_⟩
   rw[List.getElem?_map] at hg
   obtain⟨g0,hg0,rfl⟩:=oMs.1 hg
   obtain⟨v,e1,e2,e3⟩:=hc j g0 hg0
   exact⟨v,e1,e2,e3.ren hM⟩
end
theorem Kxc:∀ (ρ:List Nat) (hp os:List Ob),(upd hp ρ os).length=hp.length
 | [],_,_=>by simp[upd]
 | _ :: _,_,[]=>by simp[upd]
 | r :: ρ,hp,o :: os=>by rw[upd,Kxc ρ];simp
theorem Kxd:∀ (ρ:List Nat) (hp os:List Ob) (j:Nat),j ∉ ρ→(upd hp ρ os)[j]?=hp[j]?
 | [],_,_,_,_=>by simp[upd]
 | _ :: _,_,[],_,_=>by simp[upd]
 | r :: ρ,hp,o :: os,j,h=>by
  rw[upd,Kxd ρ _ _ _ (fun hm=>h (List.mem_cons_of_mem _ hm)),List.getElem?_set_ne (fun e=>h (by simp[e]))]
theorem Kxe:∀ (ρ:List Nat) (hp os:List Ob) (i r:Nat) (o:Ob),ρ.Nodup→ρ[i]?=some r→os[i]?=some o→r<hp.length→(upd hp ρ os)[r]?=some o
 | [],_,_,_,_,_,_,h,_,_=>by simp at h
 | _ :: _,_,[],_,_,_,_,_,h,_=>by simp at h
 | r0 :: ρ,hp,o0 :: os,0,r,o,hn,h,h',hl=>by
  simp at h h'
  subst h;subst h'
  rw[upd,Kxd ρ _ _ _ (List.nodup_cons.1 hn).1]
  simp[hl]
 | r0 :: ρ,hp,o0 :: os,i+1,r,o,hn,h,h',hl=>by
  rw[upd]
  exact Kxe ρ _ os i r o (List.nodup_cons.1 hn).2 (by simpa using h) (by simpa using h') (by simpa using hl)
theorem RelH.block_ob{Z hp M w}(h:RelH Z hp M w){b:Nat}(hb:obOwn hp M b):b<w.heap.size:=by
 obtain⟨i,o,c,h1,h2,h3⟩:=hb
 have ho:=h.obj i o _ h1 h3
 cases o with
 | dead=>cases h2
 | bag _ _ _=>exact ho.elim
 | map _ es st=>obtain⟨ms,cl,es',hh,_⟩:=ho;exact(aEs.1 hh).1
 | siter _ _=>exact(aEs.1 ho).1
 | iter mid cl seen=>obtain⟨bm,c',_,hh⟩:=ho;exact(aEs.1 hh).1
 | box t gs=>obtain⟨cs,hh,_⟩:=ho;exact(aEs.1 hh).1
 | row t sz n ds=>obtain⟨_,cs,hh,_⟩:=ho;exact(aEs.1 hh).1
theorem RelH.block_lt{Z hp M w}(h:RelH Z hp M w){b:Nat}(hb:own hp M b):b<w.heap.size:=by
 rcases hb with hb | ⟨_,x,hx,rfl⟩
 ·exact h.block_ob hb
 exact(h.bags.tgs x hx).1
theorem RelH.tags{Z hp M w}(h:RelH Z hp M w){w':World}{b0:Nat}(hb:obOwn hp M b0)(hk:∀ b,b<w.heap.size→b≠b0→w'.heap[b]?=w.heap[b]?):KeepT hp M w w':=fun x hx hn=>
 hk _ (h.bags.tgs x hx).1 fun e=>hn (e▸hb)
theorem RelH.tags_eq{Z Z' hp M M' w w'}(h:RelH Z hp M w)(h':RelH Z' hp M' w')(hs:Stp w (own hp M) w' (own hp M')):M'.h=M.h:=by
 by_cases hb:hasBag hp
 ·obtain⟨i,al,ar,lt,hi⟩:=hb
  have hlt:i<hp.length:=(gEs.1 hi).1
  have e1:M.l[i]?=some (M.l[i]'(by rw[h.len];exact hlt)):=gGe _
  have e2:M'.l[i]?=some (M'.l[i]'(by rw[h'.len];exact hlt)):=gGe _
  have o1:=h.obj i _ _ hi e1
  have o2:=h'.obj i _ _ hi e2
  have l1:al.length=M.h.length:=by revert o1;cases M.l[i]'(by rw[h.len];exact hlt) with
   | none=>exact fun o=>o.1
   | some _=>exact fun o=>o.elim
  have l2:al.length=M'.h.length:=by revert o2;cases M'.l[i]'(by rw[h'.len];exact hlt) with
   | none=>exact fun o=>o.1
   | some _=>exact fun o=>o.elim
  obtain⟨e,he,_⟩:=hs.tg
  have he':M'.h=M.h++e:=he
  have:e.length=0:=by have:=congrArg List.length he';simp at this;omega
  rw[he',List.eq_nil_of_length_eq_zero this,List.append_nil]
 exact(hs.nb hb).2
theorem Kxf:∀ {l:List Nat} {i j a b:Nat},l.Nodup→l[i]?=some a→l[j]?=some b→a=b→i=j
 | [],_,_,_,_,_,h,_,_=>by simp at h
 | x :: l,0,0,_,_,_,_,_,_=>rfl
 | x :: l,0,j+1,a,b,hn,hi,hj,e=>by
  simp at hi hj
  subst hi;subst e
  exact absurd (mOg hj) (List.nodup_cons.1 hn).1
 | x :: l,i+1,0,a,b,hn,hi,hj,e=>by
  simp at hi hj
  subst hj;subst e
  exact absurd (mOg hi) (List.nodup_cons.1 hn).1
 | x :: l,i+1,j+1,a,b,hn,hi,hj,e=>by
  simp at hi hj
  rw[Kxf (List.nodup_cons.1 hn).2 hi hj e]
def Ob.sole:Ob→Bool
 | .bag _ _ lt=>lt.isEmpty
 | _=>true
theorem RelH.sole{Z hp M w}(hr:RelH Z hp M w)(hs:hp.all Ob.sole=true)(hg:hasBag hp){x:Tg}(hx:some x∈M.h):¬ obOwn hp M x.b:=fun ho=>by
 obtain⟨i,al,ar,lt,h1⟩:=hg
 obtain⟨t,ht⟩:=List.getElem?_of_mem hx
 obtain⟨id,hid⟩:=hr.bags.lnd _ _ _ _ h1 t x ht ho
 have:=List.all_eq_true.1 hs _ (mOg h1)
 simp only[Ob.sole,List.isEmpty_iff] at this
 subst this
 simp at hid
theorem EC.frame{P:Program}{f:FuncId}{gc:List G}{hc:List Ob}{Rc:G→List Ob→Prop}{hp:List Ob}(h:EC P f gc hc Rc)(ρ:List Nat)(hρ:ρ.length=hc.length)(hnd:ρ.Nodup)
  (hobj:∀ (i:Nat) (o:Ob) (r:Nat),hc[i]?=some o→ρ[i]?=some r→hp[r]?=some (o.ren (rn ρ hp.length))) (hcb:HB hc.length hc) (hsole:hc=[]∨hp.all Ob.sole=true) (hgb:G.belAll hc.length gc=true) :
  EC P f (gc.map (G.ren (rn ρ hp.length))) hp (fun g hp'=>∃ g0 hc',Rc g0 hc'∧g=g0.ren (rn ρ hp.length)∧hc.length≤hc'.length∧
   hp'=upd hp ρ (hc'.map (Ob.ren (rn ρ hp.length)))++(hc'.drop ρ.length).map (Ob.ren (rn ρ hp.length))):=by
 intro Z w M vs hr hsz hvs
 have hin:∀ (i r:Nat),ρ[i]?=some r→∃ o:Ob,hc[i]?=some o∧hp[r]?=some (o.ren (rn ρ hp.length)):=fun i r hi=>by
  have hlt:i<hc.length:=by rw[←hρ];exact(gEs.1 hi).1
  exact⟨_,gGe hlt,hobj i _ r (gGe hlt) hi⟩
 have hrl:∀ (r:Nat),r∈ρ→r<M.l.length:=fun r hm=>by
  obtain⟨i,hi⟩:=List.getElem?_of_mem hm
  obtain⟨o,_,h2⟩:=hin i r hi
  have hlt:r<hp.length:=(gEs.1 h2).1
  rw[hr.len];exact hlt
 let Mc:Mp:=⟨ρ.map fun r=>(M.l[r]?).join,M.h⟩
 have hMcl:Mc.l.length=hc.length:=by simp[Mc,hρ]
 have hMc:∀ i r,ρ[i]?=some r→Mc.l[i]?=M.l[r]?:=fun i r hi=>by
  have hlt:=hrl r (mOg hi)
  show(ρ.map fun r=>(M.l[r]?).join)[i]?=_
  rw[List.getElem?_map,hi]
  rw[show M.l[r]?=some (M.l[r]'hlt) from gGe hlt]
  simp[gGe hlt]
 have hMcf:∀ i,i<hc.length→Mc.l[i]?=M.l[rn ρ hp.length i]?:=fun i hi=>by
  have hi':ρ[i]?=some (ρ[i]'(by omega)):=gGe (by omega)
  rw[hMc i _ hi']
  simp[rn,hi']
 have hbagc:hasBag hc→hasBag hp:=fun ⟨i,al,ar,lt,h1⟩=>by
  have hi:i<hc.length:=(gEs.1 h1).1
  exact⟨_,al,ar,_,hobj i _ _ h1 (gGe (show i<ρ.length by omega))⟩
 have hobc:∀ b,obOwn hc Mc b→obOwn hp M b:=by
  rintro b ⟨i,o,c,h1,h2,h3⟩
  have hi:i<hc.length:=(gEs.1 h1).1
  have hi':ρ[i]?=some (ρ[i]'(by omega)):=gGe (by omega)
  refine⟨_,_,c,hobj i o _ h1 hi',?_,by rw[←hMc i _ hi'];exact h3⟩
  cases o<;>first | rfl | cases h2
 have hcsole:hasBag hc→∀ x:Tg,some x∈M.h→¬ obOwn hp M x.b:=fun hb=>hsole.elim (fun e=>by subst e;exact absurd hb Kvb) fun hs x hx=>hr.sole hs (hbagc hb) hx
 have hcsole2:hasBag hp→∀ x:Tg,some x∈M.h→¬ obOwn hc Mc x.b:=fun hb x hx h1=>hsole.elim (fun e=>by subst e;exact Kva h1) fun hs=>hr.sole hs hb hx (hobc _ h1)
 have hownc:∀ b,own hc Mc b→own hp M b:=fun b h=>Kve h (hobc b) hbagc rfl
 let Zc:Env:=⟨fun b=>(own hp M b∨Z.z b)∧¬ own hc Mc b,fun b=>ownZ Z hp M b∧¬ own hc Mc b,fun b h=>⟨h.1.imp id (Z.hv b),h.2⟩,Z.x,fun w w' hs hx=>Z.st w w' (fun b hb=>hs b ⟨.inr hb,fun h=>hr.apart b (hownc b h) hb⟩) hx,Z.ax⟩
 have hO:ownZ Zc hc Mc=ownZ Z hp M:=by
  refine Kvi (fun b=>?_) rfl
  constructor
  ·rintro(hb | hb)
   ·exact .inl (hownc b hb)
   ·exact hb.1
  ·intro hb
   by_cases hc':own hc Mc b
   ·exact .inl hc'
   ·exact .inr ⟨hb,hc'⟩
 have hrc:RelH Zc hc Mc w:=by
  refine⟨hMcl,fun i o m ho hm=>?_,fun b hb hz=>hz.2 hb,fun b hb=>?_,hr.amb,fun i j oi oj b c c' hi hj li lj mi mj=>?_,⟨fun x hx=>⟨(hr.bags.tgs x hx).1,fun hz h1=>(hr.bags.tgs x hx).2 hz (hobc _ h1)⟩,fun i j al al' ar ar' lt lt' hi hj=>?_,fun i al ar lt hi t x hx h1=>?_,hr.bags.hds⟩⟩
  ·have hi:i<hc.length:=(gEs.1 ho).1
   have hi':ρ[i]?=some (ρ[i]'(by omega)):=gGe (by omega)
   rw[hO]
   exact(hr.obj _ _ m (hobj i o _ ho hi') (by rw[←hMc i _ hi'];exact hm)).unren hMcf rfl (hcb i o ho)
  ·rcases hb.1 with hb | hb
   ·exact hr.block_lt hb
   ·exact hr.old b hb
  ·have hi1:i<hc.length:=(gEs.1 hi).1
   have hj1:j<hc.length:=(gEs.1 hj).1
   have hi':ρ[i]?=some (ρ[i]'(by omega)):=gGe (by omega)
   have hj':ρ[j]?=some (ρ[j]'(by omega)):=gGe (by omega)
   have lr:∀ o:Ob,o.live=true→(o.ren (rn ρ hp.length)).live=true:=fun o ho=>by cases o<;>first | rfl | cases ho
   have:=hr.inj _ _ _ _ b c c' (hobj i oi _ hi hi') (hobj j oj _ hj hj') (lr _ li) (lr _ lj) (by rw[←hMc i _ hi'];exact mi) (by rw[←hMc j _ hj'];exact mj)
   exact Kxf hnd hi' hj' this
  ·have hi1:i<hc.length:=(gEs.1 hi).1
   have hj1:j<hc.length:=(gEs.1 hj).1
   have hi':ρ[i]?=some (ρ[i]'(by omega)):=gGe (by omega)
   have hj':ρ[j]?=some (ρ[j]'(by omega)):=gGe (by omega)
   exact Kxf hnd hi' hj' (hr.bags.one _ _ al al' ar ar' _ _ (hobj i _ _ hi hi') (hobj j _ _ hj hj'))
  ·exact absurd (hobc _ h1) (hcsole ⟨i,al,ar,lt,hi⟩ x (mOg hx))
 refine(h Zc w Mc vs hrc (by simpa using hsz) (fun j g v hg hv=>?_)).mono ?_
 ·rw[hO]
  exact(hvs j (g.ren _) v (by simp[hg]) hv).unren hMcf g rfl (G.belAll_spec.1 hgb j g hg)
 rintro e w' ⟨v,g,hc',Mc',he,hR,hr',hv',hs',hA'⟩
 have hlen:hc.length≤hc'.length:=by rw[←hr'.len];exact hA'.le
 let M':Mp:=⟨M.l++Mc'.l.drop hc.length,Mc'.h⟩
 let fn:=rn ρ hp.length
 have hM'old:∀ i,i<M.l.length→M'.l[i]?=M.l[i]?:=fun i hi=>gAl hi
 have hM'f:∀ i,i<Mc'.l.length→M'.l[fn i]?=Mc'.l[i]?:=fun i hi=>by
  by_cases hi':i<hc.length
  ·have hr1:ρ[i]?=some (ρ[i]'(by omega)):=gGe (by omega)
   have e1:fn i=ρ[i]'(by omega):=by simp[fn,rn,hr1]
   rw[e1,hM'old _ (hrl _ (mOg hr1)),←hMc i _ hr1]
   exact(hA'.eq i hi').symm
  ·have hr1:ρ[i]?=none:=List.getElem?_eq_none (by omega)
   have e1:fn i=hp.length+(i - ρ.length):=by simp[fn,rn,hr1]
   rw[e1,hρ]
   show(M.l++Mc'.l.drop hc.length)[_]?=_
   rw[List.getElem?_append_right (by rw[hr.len];omega),List.getElem?_drop]
   congr 1
   rw[hr.len]
   omega
 let hp':=upd hp ρ (hc'.map (Ob.ren fn))++(hc'.drop ρ.length).map (Ob.ren fn)
 have hul:(upd hp ρ (hc'.map (Ob.ren fn))).length=hp.length:=Kxc _ _ _
 have hp'at:∀ i o,hc'[i]?=some o→hp'[fn i]?=some (o.ren fn):=fun i o ho=>by
  have hi:=(gEs.1 ho).1
  by_cases hi':i<hc.length
  ·have hr1:ρ[i]?=some (ρ[i]'(by omega)):=gGe (by omega)
   have e1:fn i=ρ[i]'(by omega):=by simp[fn,rn,hr1]
   have hlt:=hrl _ (mOg hr1)
   rw[hr.len] at hlt
   show(upd _ _ _++_)[_]?=_
   rw[e1,gAl (by rw[hul];exact hlt)]
   exact Kxe ρ hp _ i _ _ hnd hr1 (by simp[ho]) hlt
  ·have hr1:ρ[i]?=none:=List.getElem?_eq_none (by omega)
   have e1:fn i=hp.length+(i - ρ.length):=by simp[fn,rn,hr1]
   show(upd _ _ _++_)[_]?=_
   rw[e1,List.getElem?_append_right (by rw[hul];omega),hul,List.getElem?_map,List.getElem?_drop]
   have:ρ.length+(hp.length+(i - ρ.length) - hp.length)=i:=by omega
   rw[this,ho]
   rfl
 have hp'cases:∀ j o,hp'[j]?=some o→(j ∉ ρ∧j<hp.length∧hp[j]?=some o)∨∃ i o',hc'[i]?=some o'∧j=fn i∧o=o'.ren fn:=fun j o ho=>by
  by_cases hj:j<hp.length
  ·by_cases hm:j∈ρ
   ·obtain⟨i,hi⟩:=List.getElem?_of_mem hm
    have hil:i<ρ.length:=(gEs.1 hi).1
    have hci:hc'[i]?=some (hc'[i]'(by omega)):=gGe (by omega)
    have e1:fn i=j:=by simp[fn,rn,hi]
    have:=hp'at i _ hci
    rw[e1,ho] at this
    cases this
    exact .inr ⟨i,_,hci,e1.symm,rfl⟩
   ·have:(upd hp ρ (hc'.map (Ob.ren fn))++(hc'.drop ρ.length).map (Ob.ren fn))[j]?=some o:=ho
    rw[gAl (by rw[hul];exact hj),Kxd _ _ _ _ hm] at this
    exact .inl ⟨hm,hj,this⟩
  ·have:(upd hp ρ (hc'.map (Ob.ren fn))++(hc'.drop ρ.length).map (Ob.ren fn))[j]?=some o:=ho
   rw[List.getElem?_append_right (by rw[hul];omega),hul,List.getElem?_map,List.getElem?_drop] at this
   obtain⟨o',ho',rfl⟩:=oMs.1 this
   refine .inr ⟨_,o',ho',?_,rfl⟩
   have:ρ[ρ.length+(j - hp.length)]?=none:=List.getElem?_eq_none (by omega)
   simp only[fn,rn,this]
   omega
 have liveren:∀ o:Ob,(o.ren fn).live=o.live:=fun o=>by cases o<;>rfl
 have hM'lt:∀ j o,hp'[j]?=some o→j<hp.length→M'.l[j]?=M.l[j]?:=fun j o _ hj=>hM'old j (by rw[hr.len];exact hj)
 have other:∀ j o b c,j ∉ ρ→hp[j]?=some o→o.live=true→M.l[j]?=some (some (b,c))→Zc.v b:=fun j o b c hj ho hl hm=>by
  refine⟨.inl (.inl ⟨j,o,c,ho,hl,hm⟩),?_⟩
  rintro(⟨i,oi,ci,h1,h2,h3⟩ | ⟨hg,x,hx,rfl⟩)
  rotate_left
  ·exact hcsole hg x hx ⟨j,o,c,ho,hl,hm⟩
  have hi:i<hc.length:=(gEs.1 h1).1
  have hi':ρ[i]?=some (ρ[i]'(by omega)):=gGe (by omega)
  have e:=hr.inj j _ o _ b c ci ho (hobj i oi _ h1 hi') hl (by rw[liveren];exact h2) hm (by rw[←hMc i _ hi'];exact h3)
  exact hj (e▸mOg hi')
 have bagren:∀ (o:Ob) al ar lt,o.ren fn=.bag al ar lt→∃ lt0,o=.bag al ar lt0:=fun o al ar lt h=>by cases o<;>first | (cases h;exact⟨_,rfl⟩) | cases h
 have unren:∀ (j:Nat) al ar lt,hp[j]?=some (.bag al ar lt)→j∈ρ→hasBag hc:=fun j al ar lt h1 hj=>by
  obtain⟨i,hi⟩:=List.getElem?_of_mem hj
  obtain⟨o',e1,e2⟩:=hin i j hi
  rw[h1] at e2
  obtain⟨lt0,e3⟩:=bagren o' al ar lt (oSi e2).symm
  exact⟨i,al,ar,lt0,by rw[e1];exact congrArg some e3⟩
 have noBag:∀ (j:Nat) al ar lt,hp[j]?=some (.bag al ar lt)→j ∉ ρ→¬ hasBag hc:=fun j al ar lt h1 hj ⟨i,al',ar',lt',h2⟩=>by
  have hi:i<hc.length:=(gEs.1 h2).1
  have hi':ρ[i]?=some (ρ[i]'(by omega)):=gGe (by omega)
  exact hj (hr.bags.one _ _ _ _ _ _ _ _ h1 (hobj i _ _ h2 hi')▸mOg hi')
 have bagBack:hasBag hp'→(hasBag hp∧¬ hasBag hc∧¬ hasBag hc'∧Mc'.h=M.h)∨hasBag hc':=fun ⟨j,al,ar,lt,h1⟩=>by
  rcases hp'cases j _ h1 with⟨hj,_,ho⟩ | ⟨i,o',ho',_,e⟩
  ·have hn:=noBag j al ar lt ho hj
   exact .inl ⟨⟨j,al,ar,lt,ho⟩,hn,hs'.nb hn⟩
  ·obtain⟨lt0,e3⟩:=bagren o' al ar lt e.symm
   exact .inr ⟨i,al,ar,lt0,by rw[ho'];exact congrArg some e3⟩
 have bagFwd:hasBag hc'→hasBag hp':=fun ⟨i,al,ar,lt,h1⟩=>⟨fn i,al,ar,_,hp'at i _ h1⟩
 have bagKeep:hasBag hp→¬ hasBag hc→hasBag hp':=fun ⟨j,al,ar,lt,h1⟩ hn=>by
  have hj:j ∉ ρ:=fun hj=>hn (unren j al ar lt h1 hj)
  refine⟨j,al,ar,lt,?_⟩
  show(upd _ _ _++_)[_]?=_
  rw[gAl (by rw[hul];exact(gEs.1 h1).1),Kxd _ _ _ _ hj]
  exact h1
 have hpre:∀ x:Tg,some x∈M.h→some x∈Mc'.h:=fun x hx=>by
  obtain⟨e,he,_⟩:=hs'.tg
  have he':Mc'.h=M.h++e:=he
  rw[he']
  exact List.mem_append_left _ hx
 have hO':ownZ Zc hc' Mc'=ownZ Z hp' M':=by
  refine Kvi (fun b=>?_) rfl
  constructor
  ·rintro((⟨i,o,c,h1,h2,h3⟩ | ⟨hg,hx⟩) | ⟨hb,hnb⟩)
   ·exact .inl (.inl ⟨fn i,_,c,hp'at i o h1,by rw[liveren];exact h2,by rw[hM'f i (Mp.lt h3)];exact h3⟩)
   ·exact .inl (.inr ⟨bagFwd hg,hx⟩)
   ·rcases hb with(⟨j,o,c,h1,h2,h3⟩ | ⟨hg,x,hx,e⟩) | hb
    rotate_left
    ·exact .inl (.inr ⟨bagKeep hg fun hgc=>hnb (.inr ⟨hgc,x,hx,e⟩),x,hpre x hx,e⟩)
    rotate_left
    ·by_cases hj:j∈ρ
     ·exfalso
      obtain⟨i,hi⟩:=List.getElem?_of_mem hj
      obtain⟨o',e1,e2⟩:=hin i j hi
      rw[h1] at e2
      cases e2
      exact hnb (.inl ⟨i,o',c,e1,by rw[←liveren];exact h2,by rw[hMc i j hi];exact h3⟩)
     ·have hjl:j<hp.length:=(gEs.1 h1).1
      refine .inl (.inl ⟨j,o,c,?_,h2,by rw[hM'old j (Mp.lt h3)];exact h3⟩)
      show(upd _ _ _++_)[_]?=_
      rw[gAl (by rw[hul];exact hjl),Kxd _ _ _ _ hj]
      exact h1
    ·exact .inr hb
  ·rintro((⟨j,o,c,h1,h2,h3⟩ | ⟨hg,x,hx,e⟩) | hb)
   ·rcases hp'cases j o h1 with⟨hj,hjl,ho⟩ | ⟨i,o',ho',rfl,rfl⟩
    ·refine .inr (other j o b c hj ho h2 ?_)
     rw[←hM'old j (by rw[hr.len];exact hjl)]
     exact h3
    ·exact .inl (.inl ⟨i,o',c,ho',by rw[←liveren];exact h2,by rw[←hM'f i (by rw[hr'.len];exact(gEs.1 ho').1)];exact h3⟩)
   ·rcases bagBack hg with⟨g1,g2,g3,g4⟩ | hg
    ·have hx':some x∈M.h:=by rw[←g4];exact hx
     refine .inr ⟨.inl (.inr ⟨g1,x,hx',e⟩),?_⟩
     rintro(h1 | ⟨h1,_⟩)
     ·exact hcsole2 g1 x hx' (e▸h1)
     ·exact g2 h1
    ·exact .inl (.inr ⟨hg,x,hx,e⟩)
   ·by_cases hb':own hc Mc b
    ·exact absurd (Z.hv b hb) (hr.apart b (hownc b hb'))
    ·exact .inr ⟨.inr hb,hb'⟩
 have hst:Stp w (own hp M) w' (own hp' M'):=by
  refine⟨hs'.size,fun b hb hn=>hs'.keep b hb fun h1=>hn (hownc b h1),fun b hb ho=>?_,hs'.os,hs'.tape,hs'.output,?_,hs'.fz,fun g=>?_⟩
  rotate_left
  ·obtain⟨e,h1,h2⟩:=hs'.tg
   exact⟨e,h1,fun x hx hb=>hownc _ (h2 x hx hb)⟩
  ·have gc:¬ hasBag hc:=fun h=>g (hbagc h)
   exact⟨fun h=>(bagBack h).elim (fun h=>g h.1) (hs'.nb gc).1,(hs'.nb gc).2⟩
  have:ownZ Zc hc' Mc' b:=by rw[hO'];exact .inl ho
  rcases this with h1 | h1
  ·exact hownc b (hs'.own b hb h1)
  ·rcases h1.1 with h2 | h2
   ·exact h2
   ·rcases ho with⟨j,o,c,h1',h2',h3'⟩ | ⟨hg,x,hx,e⟩
    ·exfalso
     rcases hp'cases j o h1' with⟨hj,hjl,ho⟩ | ⟨i,o',ho',rfl,rfl⟩
     ·exact hr.apart b (.inl ⟨j,o,c,ho,h2',by rw[←hM'old j (by rw[hr.len];exact hjl)];exact h3'⟩) (Z.hv b h2)
     ·have:own hc' Mc' b:=.inl ⟨i,o',c,ho',by rw[←liveren];exact h2',by rw[←hM'f i (by rw[hr'.len];exact(gEs.1 ho').1)];exact h3'⟩
      exact h1.2 (hs'.own b hb this)
    ·rcases bagBack hg with⟨g1,g2,g3,g4⟩ | hg
     ·exact .inr ⟨g1,x,by rw[←g4];exact hx,e⟩
     ·exact hownc b (hs'.own b hb (.inr ⟨hg,x,hx,e⟩))
 have hMlen:M'.l.length=hp'.length:=by
  show(M.l++Mc'.l.drop hc.length).length=(upd _ _ _++_).length
  rw[List.length_append,List.length_append,hul]
  simp[hr.len,hr'.len,hρ]
 refine⟨v,g.ren fn,hp',M',he,⟨g,hc',hR,rfl,hlen,rfl⟩,⟨hMlen,fun j o m ho hm=>?_,fun b hb hz=>?_,fun b hb=>nLl (hr.old b hb) hs'.size,hr'.amb,fun i j oi oj b c c' hi hj li lj mi mj=>?_,⟨fun x hx=>⟨(hr'.bags.tgs x hx).1,?_⟩,fun i j al al' ar ar' lt lt' hi hj=>?_,fun i al ar lt hi t x hx ho=>?_,hr'.bags.hds⟩⟩,?_,hst,?_⟩
 ·rcases hp'cases j o ho with⟨hj,hjl,ho'⟩ | ⟨i,o',ho',rfl,rfl⟩
  ·have hm':M.l[j]?=some m:=by rw[←hM'old j (by rw[hr.len];exact hjl)];exact hm
   have:=hr.obj j o m ho' hm'
   refine this.move (k:=M.l.length) (Kvj Z hst) hM'old this.bel (fun b c e hl=>?_) (fun al ar lt e=>?_)
   ·subst e
    have hz:=other j o b c hj ho' hl hm'
    exact hs'.keep b (hr.block_ob ⟨j,o,c,ho',hl,hm'⟩) hz.2
   ·subst e
    have hn:=noBag j al ar lt ho' hj
    refine⟨(hs'.nb hn).2,fun x hx _=>hs'.keep _ (hr.bags.tgs x hx).1 ?_⟩
    rintro(h1 | ⟨h1,_⟩)
    ·exact hcsole2 ⟨j,al,ar,lt,ho'⟩ x hx h1
    ·exact hn h1
  ·have hi:=(gEs.1 ho').1
   rw[hM'f i (by rw[hr'.len];exact hi)] at hm
   have:=hr'.obj i o' m ho' hm
   rw[hO'] at this
   exact this.rens hM'f rfl
 ·have hbz:ownZ Zc hc' Mc' b:=by rw[hO'];exact .inl hb
  rcases hbz with h1 | h1
  ·exact hr'.apart b h1 ⟨.inr hz,fun h2=>hr.apart b (hownc b h2) hz⟩
  ·rcases hb with⟨j,o,c,h1',h2',h3'⟩ | ⟨hg,x,hx,e⟩
   ·rcases hp'cases j o h1' with⟨hj,hjl,ho⟩ | ⟨i,o',ho',rfl,rfl⟩
    ·exact hr.apart b (.inl ⟨j,o,c,ho,h2',by rw[←hM'old j (by rw[hr.len];exact hjl)];exact h3'⟩) hz
    ·exact hr'.apart b (.inl ⟨i,o',c,ho',by rw[←liveren];exact h2',by rw[←hM'f i (by rw[hr'.len];exact(gEs.1 ho').1)];exact h3'⟩) (Zc.hv b h1)
   ·rcases bagBack hg with⟨g1,g2,g3,g4⟩ | hg
    ·exact hr.apart b (.inr ⟨g1,x,by rw[←g4];exact hx,e⟩) hz
    ·exact hr'.apart b (.inr ⟨hg,x,hx,e⟩) (Zc.hv b h1)
 ·rcases hp'cases i oi hi with⟨hi1,hil,ho1⟩ | ⟨k,ok,hk,rfl,rfl⟩
  ·rcases hp'cases j oj hj with⟨hj1,hjl,ho2⟩ | ⟨l,ol,hl',rfl,rfl⟩
   ·rw[hM'old i (by rw[hr.len];exact hil)] at mi
    rw[hM'old j (by rw[hr.len];exact hjl)] at mj
    exact hr.inj i j oi oj b c c' ho1 ho2 li lj mi mj
   ·exfalso
    rw[hM'old i (by rw[hr.len];exact hil)] at mi
    rw[hM'f l (by rw[hr'.len];exact(gEs.1 hl').1)] at mj
    exact hr'.apart b (.inl ⟨l,ol,c',hl',by rw[←liveren];exact lj,mj⟩) (Zc.hv b (other i oi b c hi1 ho1 li mi))
  ·rcases hp'cases j oj hj with⟨hj1,hjl,ho2⟩ | ⟨l,ol,hl',rfl,rfl⟩
   ·exfalso
    rw[hM'old j (by rw[hr.len];exact hjl)] at mj
    rw[hM'f k (by rw[hr'.len];exact(gEs.1 hk).1)] at mi
    exact hr'.apart b (.inl ⟨k,ok,c,hk,by rw[←liveren];exact li,mi⟩) (Zc.hv b (other j oj b c' hj1 ho2 lj mj))
   ·rw[hM'f k (by rw[hr'.len];exact(gEs.1 hk).1)] at mi
    rw[hM'f l (by rw[hr'.len];exact(gEs.1 hl').1)] at mj
    rw[hr'.inj k l ok ol b c c' hk hl' (by rw[←liveren];exact li) (by rw[←liveren];exact lj) mi mj]
 ·rintro hz ⟨j,o,c,h1,h2,h3⟩
  rcases hp'cases j o h1 with⟨hj,hjl,ho⟩ | ⟨i,o',ho',rfl,rfl⟩
  ·have hm':M.l[j]?=some (some (x.b,c)):=by rw[←hM'old j (by rw[hr.len];exact hjl)];exact h3
   have hx':some x∈Mc'.h:=hx
   obtain⟨e,he,h5⟩:=hs'.tg
   have he':Mc'.h=M.h++e:=he
   rw[he'] at hx'
   rcases List.mem_append.1 hx' with hx' | hx'
   ·exact(hr.bags.tgs x hx').2 hz ⟨j,o,c,ho,h2,hm'⟩
   ·exact(other j o x.b c hj ho h2 hm').2 (h5 x hx' (hr.block_ob ⟨j,o,c,ho,h2,hm'⟩))
  ·exact(hr'.bags.tgs x hx).2 hz ⟨i,o',c,ho',by rw[←liveren];exact h2,by rw[←hM'f i (by rw[hr'.len];exact(gEs.1 ho').1)];exact h3⟩
 ·rcases hp'cases i _ hi with⟨hi1,hil,ho1⟩ | ⟨k,ok,hk,rfl,e1⟩
  ·rcases hp'cases j _ hj with⟨hj1,hjl,ho2⟩ | ⟨l,ol,hl',rfl,e2⟩
   ·exact hr.bags.one _ _ _ _ _ _ _ _ ho1 ho2
   ·obtain⟨lt0,e3⟩:=bagren ol al' ar' lt' e2.symm
    exact absurd ⟨l,al',ar',lt0,by rw[hl'];exact congrArg some e3⟩ (hs'.nb (noBag i al ar lt ho1 hi1)).1
  ·obtain⟨lt1,e4⟩:=bagren ok al ar lt e1.symm
   rcases hp'cases j _ hj with⟨hj1,hjl,ho2⟩ | ⟨l,ol,hl',rfl,e2⟩
   ·exact absurd ⟨k,al,ar,lt1,by rw[hk];exact congrArg some e4⟩ (hs'.nb (noBag j al' ar' lt' ho2 hj1)).1
   ·obtain⟨lt0,e3⟩:=bagren ol al' ar' lt' e2.symm
    rw[hr'.bags.one k l al al' ar ar' lt1 lt0 (by rw[hk];exact congrArg some e4) (by rw[hl'];exact congrArg some e3)]
 ·have hback:∀ j o c,j ∉ ρ→hp[j]?=some o→o.live=true→M.l[j]?=some (some (x.b,c))→¬ own hc Mc x.b:=fun j o c hj h1 h2 h3=>(other j o x.b c hj h1 h2 h3).2
  rcases hp'cases i _ hi with⟨hi1,hil,ho1⟩ | ⟨k,ok,hk,rfl,e1⟩
  ·
   have hn:=noBag i al ar lt ho1 hi1
   have eh:Mc'.h=M.h:=(hs'.nb hn).2
   have hx':M.h[t]?=some (some x):=by rw[←eh];exact hx
   have hm:=mOg hx'
   refine hr.bags.lnd i al ar lt ho1 t x hx' ?_
   obtain⟨j,o,c,h1,h2,h3⟩:=ho
   rcases hp'cases j o h1 with⟨hj,hjl,ho⟩ | ⟨i2,o',ho',rfl,rfl⟩
   ·exact⟨j,o,c,ho,h2,by rw[←hM'old j (by rw[hr.len];exact hjl)];exact h3⟩
   ·have h4:own hc' Mc' x.b:=.inl ⟨i2,o',c,ho',by rw[←liveren];exact h2,by rw[←hM'f i2 (by rw[hr'.len];exact(gEs.1 ho').1)];exact h3⟩
    rcases hs'.own _ (hr.bags.tgs x hm).1 h4 with h5 | h5
    ·exact hobc _ h5
    ·exact absurd h5.1 hn
  ·obtain⟨lt1,e4⟩:=bagren ok al ar lt e1.symm
   subst e4
   have hg':hasBag hc':=⟨k,al,ar,lt1,hk⟩
   have hg:hasBag hc:=Classical.byContradiction fun hn=>(hs'.nb hn).1 hg'
   obtain⟨j,o,c,h1,h2,h3⟩:=ho
   have hlt:lt=Lt.ren fn lt1:=by simp only[Ob.ren,Ob.bag.injEq] at e1;exact e1.2.2
   have hres:∃ id,(t,id)∈lt1:=by
    refine hr'.bags.lnd k al ar lt1 hk t x hx ?_
    rcases hp'cases j o h1 with⟨hj,hjl,ho⟩ | ⟨i2,o',ho',rfl,rfl⟩
    ·exfalso
     have hm':M.l[j]?=some (some (x.b,c)):=by rw[←hM'old j (by rw[hr.len];exact hjl)];exact h3
     have hmem:some x∈Mc'.h:=mOg hx
     obtain⟨e,he,h5⟩:=hs'.tg
     have he':Mc'.h=M.h++e:=he
     rw[he'] at hmem
     rcases List.mem_append.1 hmem with hmem | hmem
     ·exact hcsole hg x hmem ⟨j,o,c,ho,h2,hm'⟩
     ·exact hback j o c hj ho h2 hm' (h5 x hmem (hr.block_ob ⟨j,o,c,ho,h2,hm'⟩))
    ·exact⟨i2,o',c,ho',by rw[←liveren];exact h2,by rw[←hM'f i2 (by rw[hr'.len];exact(gEs.1 ho').1)];exact h3⟩
   obtain⟨id,hid⟩:=hres
   exact⟨fn id,by rw[hlt];exact Lt.mem_ren.2 ⟨id,hid,rfl⟩⟩
 ·rw[←hO']
  exact hv'.ren hM'f
 ·refine⟨?_,fun i hi=>hM'old i (by rw[hr.len];exact hi)⟩
  rw[hMlen]
  show hp.length≤(upd _ _ _++_).length
  rw[List.length_append,hul]
  omega
end Go.Gk
namespace Go.Gk
def Callable (P:Program) (f:FuncId):Prop:=∃ fn,P.funcs[f]?=some fn∧fn.body.isNone=false∧(fn.name== "runtime.NumGoroutine")=false
theorem Lth {P:Program} {f:FuncId} {fn:Func} (h:P.funcs[f]?=some fn) (h1:fn.body.isNone=false) (h2:(fn.name== "runtime.NumGoroutine")=false):Callable P f:=⟨fn,h,h1,h2⟩
def Pure(P:Program)(f:FuncId)(gs:List G)(r:G):Prop:=EC P f gs [] fun g hp'=>g=r∧hp'=[]
mutual
theorem G.ren_of_bel{f:Nat→Nat}:∀ g:G,g.bel 0=true→g.ren f=g
 | .d x,_=>rfl
 | .agg gs,h=>by simp only[G.ren];rw[G.renAll_of_bel gs h]
 | .ptr id off,h=>by simp[G.bel,Nat.blt] at h
 | .rp xs,_=>rfl
 | .sl id n,h=>by simp[G.bel,Nat.blt] at h
 | .slo id sz o n,h=>by simp[G.bel,Nat.blt] at h
 | .map id,h=>by simp[G.bel,Nat.blt] at h
 | .fn k a b,h=>by
  simp only[G.bel,Bool.and_eq_true] at h
  simp only[G.ren]
  rw[G.renAll_of_bel a h.1,G.renAll_of_bel b h.2]
 | .tup gs,h=>by simp only[G.ren];rw[G.renAll_of_bel gs h]
 | .junk,_=>rfl
theorem G.renAll_of_bel{f:Nat→Nat}:∀ gs:List G,G.belAll 0 gs=true→G.renAll f gs=gs
 | [],_=>rfl
 | g :: r,h=>by
  simp only[G.belAll,Bool.and_eq_true] at h
  simp only[G.renAll]
  rw[G.ren_of_bel g h.1,G.renAll_of_bel r h.2]
end
theorem HB_nil(k:Nat):HB k []:=fun i o h=>by simp at h
theorem Pure.ec{P f gs r hp}{R:G→List Ob→Prop}(h:Pure P f gs r)(hb:G.belAll 0 gs=true)(hr:r.bel 0=true)(hR:R r hp):EC P f gs hp R:=by
 have:=EC.frame (hp:=hp) h [] rfl List.nodup_nil (fun i o r h=>by simp at h) (HB_nil _) (.inl rfl) hb
 have e:gs.map (G.ren (rn [] hp.length))=gs:=by rw[←G.renAll_eq];exact G.renAll_of_bel gs hb
 rw[e] at this
 refine this.mono ?_
 rintro g hp' ⟨g0,hc',⟨rfl,rfl⟩,rfl,_,rfl⟩
 rw[G.ren_of_bel _ hr]
 simpa [upd] using hR
section
variable{P:Program}{F N:Nat}{ops:Array Oper}{rest:List Oper}{Q:GPost}{fr:Fr}{hp hp':List Ob}{g:G}
variable{d:Tmp}{ty:TypeId}{pos:String}{after:Array Edge}{fop:Operand}{args:Array Operand}{ts:Array TypeId}{f:FuncId}{g1 g2 gs:List G}{R:G→List Ob→Prop}
theorem Kxg{c:List Ob}{Z M w a}(hr:Rel Z hp M w fr a N)(hf:fr.ev fop=some (.fn (.func f) g1 g2))(ha:args.toList.mapM fr.ev=some gs)(hcl:Callable P f)(dst:Option Tmp) :
  ∃ vs:Array Value,(execOp a.eval ⟨dst,.call ⟨.value fop,args,ts⟩,ty,pos,after,none⟩).run P w=.ok (.enter f vs) w∧vs.size=(g1++gs++g2).length∧
   ∀ (j:Nat) (g:G) (v:Value),(g1++gs++g2)[j]?=some g→vs[j]?=some v→VR w (ownZ Z hp M) M g v:=by
 obtain⟨fn,h1,h2,h3⟩:=hcl
 have hv:=hr.ev hf
 obtain⟨l3,r3⟩:=Kxa hr ha
 simp only[execOp,resolve]
 generalize a.eval fop=vf at hv
 cases hv with
 | fn l1 l2 r1 r2=>
  rename_i v1 v2
  refine⟨v1++args.map a.eval++v2,?_,by simp[l1,l2,←l3],?_⟩
  ·have h3':fn.name≠ "runtime.NumGoroutine":=beq_eq_false_iff_ne.1 h3
   have h2':fn.body≠none:=by intro e;rw[e] at h2;cases h2
   simp[Deferred.ofValue,invoke,callFunc,h1,h2',h3']
  ·intro j g v hg hv
   by_cases hj1:j<g1.length
   ·rw[List.append_assoc,gAl hj1] at hg
    rw[Array.append_assoc,Array.getElem?_append_left (by omega)] at hv
    exact r1 j g v hg hv
   ·by_cases hj2:j<g1.length+gs.length
    ·rw[List.append_assoc,List.getElem?_append_right (by omega),gAl (by omega)] at hg
     rw[Array.append_assoc,Array.getElem?_append_right (by omega),Array.getElem?_append_left (by omega),l1] at hv
     exact r3 _ g v hg hv
    ·rw[List.getElem?_append_right (by simp;omega)] at hg
     rw[Array.getElem?_append_right (by simp at l3 ⊢;omega)] at hv
     simp only[List.length_append,Array.size_append] at hg hv
     rw[l1,l3] at hv
     exact r2 _ g v hg hv
theorem Kxh(hd:Nat.blt d N=true)(hF:F≤hp.length)(hf:fr.ev fop=some (.fn (.func f) g1 g2))(ha:args.toList.mapM fr.ev=some gs)(hcl:Callable P f)(hc:EC P f (g1++gs++g2) hp R)
  (h:∀ g hp',R g hp'→EO P F N ops rest Q ((d,g) :: fr) hp'):EO P F N ops (⟨some d,.call ⟨.value fop,args,ts⟩,ty,pos,after,none⟩ :: rest) Q fr hp:=by
 intro Z w0 O0 M0 w M a hs hA hr
 refine wpList_plain rfl fun K hK=>?_
 obtain⟨vs,hrun,l,r⟩:=Kxg (ts:=ts) (ty:=ty) (pos:=pos) (after:=after) (c:=hp) hr hf ha hcl (some d)
 unfold Oper.wp
 rw[hrun,Oper.upon_enter]
 refine(hc Z w M vs hr.heap l r).mono ?_
 rintro e w' ⟨v,g,hp',M',rfl,hR,h1,h2,h3,h4⟩
 exact hK _ _ (h g hp' hR Z w0 O0 M0 w' M' _ (hs.trans h3) (hA.trans h4 hF) ((hr.later h1 h3 h4).put (nblt.1 hd) h2))
theorem Kxi{r:G}(hd:Nat.blt d N=true)(hF:F≤hp.length)(hf:fr.ev fop=some (.fn (.func f) g1 g2))(ha:args.toList.mapM fr.ev=some gs)(hcl:Callable P f)(hc:Pure P f (g1++gs++g2) r)
  (hb:G.belAll 0 (g1++gs++g2)=true) (hb':r.bel 0=true) (h:EO P F N ops rest Q ((d,r) :: fr) hp):EO P F N ops (⟨some d,.call ⟨.value fop,args,ts⟩,ty,pos,after,none⟩ :: rest) Q fr hp:=
 Kxh (R:=fun g hp'=>g=r∧hp'=hp) hd hF hf ha hcl (hc.ec hb hb' ⟨rfl,rfl⟩) (by rintro g hp' ⟨rfl,rfl⟩;exact h)
end
theorem eo_x{P:Program}{Γ:TypeId→Option TI}(hΓ:TOK P Γ){F N:Nat}{ops:Array Oper}{rest:List Oper}{Q:GPost}{fr:Fr}{hp:List Ob}{g:G}{op:Op}{d:Tmp}{ty:TypeId}{pos:String}{after:Array Edge}
  (h:pst Γ fr hp op=some g) (hd:Nat.blt d N=true) (k:EO P F N ops rest Q ((d,g) :: fr) hp):EO P F N ops (⟨some d,op,ty,pos,after,none⟩ :: rest) Q fr hp:=
 eo_p hd (Kxb hΓ h) k
abbrev I(n:Int):G:=.d (.v (.int .i64 n))
abbrev B(b:Bool):G:=.d (.v (.bool b))
abbrev U(n:Int):G:=.d (.v (.int .u64 n))
abbrev S(l:List UInt8):G:=.d (.v (.string ⟨l.toArray⟩))
theorem Pure.enter{P:Program}{f:FuncId}{fn:Func}{c:Code}{gs:List G}{r:G}(fr0:Fr)(hf:P.funcs[f]?=some fn)(hb:fn.body=some c)
  (hfr:∀ t g,fr0.get t=some g→gs[t]?=some g) (hN:Nat.ble gs.length fn.ntmps=true) (hr:r.bel 0=true)
  (h:EW P 0 fn.ntmps c (fun e fr hp=>(e=.normal∨e=.ret)∧Res P fn fr hp r) fr0 []):Pure P f gs r:=by
 refine Kvz fr0 hf hb hfr (nBe hN) fun _=>Kvp h ?_
 rintro e fr hp ⟨he,hres⟩
 exact⟨he,[],hp,r,rfl,⟨rfl,rfl⟩,Nat.le_refl _,.inr ⟨HB_nil _,hr⟩,hres⟩
def Fr.of:Nat→List G→Fr
 | _,[]=>[]
 | k,g :: r=>(k,g) :: Fr.of (k+1) r
theorem Fr.of_get:∀ (gs:List G) (k t:Nat) (g:G),(Fr.of k gs).get t=some g→k≤t∧gs[t - k]?=some g
 | [],_,_,_,h=>by cases h
 | g0 :: r,k,t,g,h=>by
  simp only[Fr.of,Fr.get] at h
  cases hk:Nat.beq k t with
  | true=>
   rw[hk] at h
   have:=nEq hk
   subst this
   cases h
   exact⟨Nat.le_refl _,by simp⟩
  | false=>
   rw[hk] at h
   obtain⟨h1,h2⟩:=Fr.of_get r (k+1) t g h
   refine⟨by omega,?_⟩
   have:t - k=(t - (k+1))+1:=by omega
   rw[this]
   simpa using h2
theorem Fr.of_ok(gs:List G):∀ t g,(Fr.of 0 gs).get t=some g→gs[t]?=some g:=fun t g h=>by simpa using (Fr.of_get gs 0 t g h).2
end Go.Gk
namespace Go.Gk
section
variable{P:Program}{Γ:TypeId→Option TI}{N:Nat}{fr:Fr}{hp:List Ob}{g:G}{Z:Env}{M:Mp}{w:World}{a:Act}
theorem Kxj{α:Type}{l:List α}{x y:α}{i:Nat}(h:(l++[x])[i]?=some y):(i<l.length∧l[i]?=some y)∨(i=l.length∧x=y):=by
 by_cases hi:i<l.length
 ·rw[gAl hi] at h;exact .inl ⟨hi,h⟩
 rw[List.getElem?_append_right (by omega)] at h
 have:i - l.length=0:=by
  cases hk:i - l.length with
  | zero=>rfl
  | succ k=>rw[hk] at h;simp at h
 rw[this] at h
 simp at h
 exact .inr ⟨by omega,h⟩
theorem Kxk(hr:RelH Z hp M w)(o:Ob)(cs:Array Value)(t:TypeId)(c:Nat)
  (ho:∀ (w':World) O',Stp w (ownZ Z hp M) w' O'→w'.heap[w.heap.size]?=some (.cells cs t (0,0))→ObR w' O' (M.app [some (w.heap.size,c)]) o (some (w.heap.size,c))) (hog:o.isBag=false:=by rfl) :
  RelH Z (hp++[o]) (M.app [some (w.heap.size,c)]) (w.alloc (.cells cs t))∧Stp w (own hp M) (w.alloc (.cells cs t)) (own (hp++[o]) (M.app [some (w.heap.size,c)]))∧Agr hp.length M (M.app [some (w.heap.size,c)]):=by
 have hob:∀ b,b<w.heap.size→obOwn (hp++[o]) (M.app [some (w.heap.size,c)]) b→obOwn hp M b:=by
  rintro b hb ⟨i,o',c',h1,h2,h3⟩
  rcases Kxj h3 with⟨hi,h4⟩ | ⟨hi,h4⟩
  ·rcases Kxj h1 with⟨_,h5⟩ | ⟨hi',_⟩
   ·exact⟨i,o',c',h5,h2,h4⟩
   ·rw[hr.len] at hi;omega
  ·cases h4;omega
 have hst:Stp w (own hp M) (w.alloc (.cells cs t)) (own (hp++[o]) (M.app [some (w.heap.size,c)])):=by
  exact .mk' (by simp) (fun b hb _=>heap_alloc_old w _ hb) (fun b hb h=>Kve h (hob b hb) (fun g=>g.of (Kvg hog)) rfl) rfl rfl rfl rfl (fun g=>g.of (Kvg hog)) fun x hx _=>heap_alloc_old w _ (hr.bags.tgs x hx).1
 have hM:∀ i,i<M.l.length→(M.app [some (w.heap.size,c)]).l[i]?=M.l[i]?:=fun i hi=>gAl hi
 refine⟨⟨by simp[hr.len],fun i o' m h1 h2=>?_,fun b hb hz=>?_,fun b hb=>?_,hr.amb_stp hst,fun i j oi oj b c1 c2 hi hj li lj mi mj=>?_,hr.bags.mono rfl (by simp) hob (Kvg hog)⟩,hst,⟨by simp[hr.len],fun i hi=>hM i (by rw[hr.len];exact hi)⟩⟩
 ·rcases Kxj h1 with⟨hi,h3⟩ | ⟨hi,rfl⟩
  ·have hi':i<M.l.length:=by rw[hr.len];exact hi
   rw[hM i hi'] at h2
   have:=hr.obj i o' m h3 h2
   refine this.move (k:=M.l.length) (Kvj Z hst) hM this.bel (fun b c' e hl=>?_) fun _ _ _ _=>⟨rfl,fun x hx _=>heap_alloc_old w _ (hr.bags.tgs x hx).1⟩
   subst e
   exact heap_alloc_old w _ (hr.block_ob ⟨i,o',c',h3,hl,h2⟩)
  ·subst hi
   rw[←hr.len] at h2
   have:m=some (w.heap.size,c):=by
    rcases Kxj h2 with⟨hi,_⟩ | ⟨_,h⟩
    ·omega
    ·exact h.symm
   subst this
   exact ho _ _ (Kvj Z hst) (heap_alloc_new w _)
 ·by_cases hb':b<w.heap.size
  ·exact hr.apart b (hst.own b hb' hb) hz
  ·exact absurd (hr.old b hz) hb'
 ·have:=hr.old b hb;simp;omega
 ·rcases Kxj hi with⟨hi1,hi2⟩ | ⟨hi1,hi2⟩
  ·rcases Kxj hj with⟨hj1,hj2⟩ | ⟨hj1,hj2⟩
   ·rw[hM i (by rw[hr.len];exact hi1)] at mi
    rw[hM j (by rw[hr.len];exact hj1)] at mj
    exact hr.inj i j oi oj b c1 c2 hi2 hj2 li lj mi mj
   ·exfalso
    rw[hM i (by rw[hr.len];exact hi1)] at mi
    rcases Kxj mj with⟨h,_⟩ | ⟨_,h⟩
    ·rw[hr.len] at h;omega
    ·cases h
     have:=hr.block_ob ⟨i,oi,c1,hi2,li,mi⟩
     omega
  ·rcases Kxj hj with⟨hj1,hj2⟩ | ⟨hj1,hj2⟩
   ·exfalso
    rw[hM j (by rw[hr.len];exact hj1)] at mj
    rcases Kxj mi with⟨h,_⟩ | ⟨_,h⟩
    ·rw[hr.len] at h;omega
    ·cases h
     have:=hr.block_ob ⟨j,oj,c2,hj2,lj,mj⟩
     omega
   ·omega
def cellsG:G→Option (List G)
 | .agg gs=>some gs
 | .d x=>some [.d x]
 | .ptr i o=>some [.ptr i o]
 | .rp xs=>some [.rp xs]
 | .sl i n=>some [.sl i n]
 | .slo i s o n=>some [.slo i s o n]
 | .map i=>some [.map i]
 | .fn f a b=>some [.fn f a b]
 | .tup _ | .junk=>none
def G.one:G→Bool
 | .agg _ | .tup _ | .junk=>false
 | _=>true
theorem VR.one{O:Ow}{v:Value}(h:VR w O M g v)(h1:g.one=true):v.oneCell'=true:=by
 cases h<;>first | rfl | (rename_i h;exact h.one) | cases h1
theorem Kxl{O:Ow}{v:Value}{gs:List G}(h:VR w O M g v)(hg:cellsG g=some gs)(h1:gs.all G.one=true):v.cells.size=gs.length∧CellsR w O M v.cells gs:=by
 have one:∀ g0:G,g0.one=true→VR w O M g0 v→v.cells=#[v]:=fun g0 h1 h=>by cases h<;>first | rfl | (rename_i h;have hx:=h.one;clear h;cases v<;>first | rfl | cases hx) | cases h1
 have sing:∀ g0:G,g0.one=true→VR w O M g0 v→v.cells.size=[g0].length∧CellsR w O M v.cells [g0]:=fun g0 h1 h=>by
  rw[one g0 h1 h]
  refine⟨rfl,fun j g' hj=>?_⟩
  cases j with
  | zero=>simp at hj;subst hj;exact⟨v,rfl,h.one h1,h⟩
  | succ j=>simp at hj
 cases g<;>simp only[cellsG,Option.some.injEq,reduceCtorEq] at hg<;>try (subst hg;exact sing _ rfl h)
 subst hg
 cases h with
 | agg hl hr=>
  rename_i vs
  refine⟨hl,fun j g hj=>?_⟩
  have hlt:j<_:=(gEs.1 hj).1
  have hv:vs[j]?=some (vs[j]'(by omega)):=Array.getElem?_eq_getElem (by omega)
  have h2:=hr j g _ hj hv
  exact⟨_,hv,h2.one (List.all_eq_true.1 h1 g (mOg hj)),h2⟩
theorem Kxm(hr:RelH Z hp M w){v:Value}{gs:List G}{t:TypeId}(h:v.cells.size=gs.length∧CellsR w (ownZ Z hp M) M v.cells gs) :
  RelH Z (hp++[.box t gs]) (M.app [some (w.heap.size,0)]) (w.alloc (.cells v.cells t))∧Stp w (own hp M) (w.alloc (.cells v.cells t)) (own (hp++[.box t gs]) (M.app [some (w.heap.size,0)]))∧Agr hp.length M (M.app [some (w.heap.size,0)]):=by
 refine Kxk hr (.box t gs) v.cells t 0 fun w' O' hst hh=>⟨v.cells,hh,h.1,fun j g hj=>?_⟩
 obtain⟨u,h1,h2,h3⟩:=h.2 j g hj
 exact⟨u,h1,h2,h3.step hst (fun i hi=>gAl hi)⟩
variable{ops:Array Oper}{rest:List Oper}{Q:GPost}{F:Nat}
variable{d:Tmp}{ty:TypeId}{pos:String}{after:Array Edge}
def zeroG(i:TI):List G:=i.zero.cells.toList.map fun c=>.d (nilD c)
theorem Kxn(hΓ:TOK P Γ){t:TypeId}{i:TI}(hi:Γ t=some i)(h1:(i.zero.cells.toList.all (·.oneCell'))=true)(hd:Nat.blt d N=true)(hF:F≤hp.length)
  (k:EO P F N ops rest Q ((d,.ptr hp.length 0) :: fr) (hp++[.box t (zeroG i)])):EO P F N ops (⟨some d,.alloc t,ty,pos,after,none⟩ :: rest) Q fr hp:=by
 refine eo_s hF (nblt.1 hd) (fun Z w M a hr=>?_) k
 obtain⟨_,inf,e1,e2,e3,e4⟩:=hΓ t i hi
 have hc:i.zero.cells.size=(zeroG i).length∧CellsR w (ownZ Z hp M) M i.zero.cells (zeroG i):=by
  refine⟨by simp[zeroG],fun j g hj=>?_⟩
  simp only[zeroG,List.getElem?_map] at hj
  obtain⟨c,hc,rfl⟩:=oMs.1 hj
  exact⟨c,by simpa using hc,List.all_eq_true.1 h1 c (mOg hc),.d (Kwa c (List.all_eq_true.1 h1 c (mOg hc)))⟩
 obtain⟨r1,r2,r3⟩:=Kxm (t:=t) hr.heap hc
 refine⟨.pointer (some ⟨w.heap.size,0,none⟩),_,_,?_,r1,.ptr (c:=0) ?_,r2,r3⟩
 ·simp[execOp,Instr.alloc,zeroValue,typeInfo,e1,e4,newVar,newRow]
 ·rw[←hr.heap.len];simp
theorem Kxo{t:TypeId}{x:Operand}{gs:List G}(hx:fr.ev x=some g)(hg:cellsG g=some gs)(h1:gs.all G.one=true)(hd:Nat.blt d N=true)(hF:F≤hp.length)
  (k:EO P F N ops rest Q ((d,.ptr hp.length 0) :: fr) (hp++[.box t gs])):EO P F N ops (⟨some d,.box t x,ty,pos,after,none⟩ :: rest) Q fr hp:=by
 refine eo_s hF (nblt.1 hd) (fun Z w M a hr=>?_) k
 obtain⟨r1,r2,r3⟩:=Kxm (t:=t) hr.heap (Kxl (hr.ev hx) hg h1)
 refine⟨.pointer (some ⟨w.heap.size,0,none⟩),_,_,?_,r1,.ptr (c:=0) ?_,r2,r3⟩
 ·simp[execOp,Instr.box,newVar,newRow]
 ·rw[←hr.heap.len];simp
def setAt{α:Type}(l:List α)(off:Nat)(new:List α):List α:=l.take off++new++l.drop (off+new.length)
theorem Kxp{α:Type}{l new:List α}{off:Nat}(h:off+new.length≤l.length)(j:Nat):(setAt l off new)[j]?=if off≤j∧j<off+new.length then new[j - off]? else l[j]?:=by
 unfold setAt
 by_cases h1:j<off
 ·rw[if_neg (by omega),List.append_assoc,gAl (by simp;omega),List.getElem?_take_of_lt h1]
 by_cases h2:j<off+new.length
 ·rw[if_pos ⟨by omega,h2⟩,List.append_assoc,List.getElem?_append_right (by simp;omega),gAl (by simp;omega)]
  congr 1
  simp
  omega
 rw[if_neg (by omega),List.getElem?_append_right (by simp;omega),List.getElem?_drop]
 congr 1
 simp
 omega
theorem Kxq{α:Type}{l new:List α}{off:Nat}(h:off+new.length≤l.length):(setAt l off new).length=l.length:=by
 simp[setAt];omega
theorem Kxr(hr:RelH Z hp M w){id b c off:Nat}{o o':Ob}{t:TypeId}{cs:Array Value}{vs:List Value}(ho:hp[id]?=some o)(hl:o.live=true)(hM:M.l[id]?=some (some (b,c)))(hb:w.heap[b]?=some (.cells cs t (0,0)))
  (hfit:off+vs.length≤cs.size) (h1:∀ v∈vs,v.oneCell'=true)
  (ho':∀ (w':World),Stp w (ownZ Z hp M) w' (ownZ Z (hp.set id o') M)→w'.heap[b]?=some (.cells (setAt cs.toList off vs).toArray t (0,0))→ObR w' (ownZ Z (hp.set id o') M) M o' (some (b,c))) (hl':o'.live=true) (hog:o'.isBag=false:=by rfl) :
  ∃ w',(storeCells ⟨b,off,none⟩ vs).run P w=.ok () w'∧RelH Z (hp.set id o') M w'∧Stp w (own hp M) w' (own (hp.set id o') M):=by
 have hrun:=run_storeCells_at P b off t vs 0 cs w hb (by simpa using hfit) h1
 have hid:id<hp.length:=(gEs.1 ho).1
 have hob:∀ b',obOwn (hp.set id o') M b'→obOwn hp M b':=by
  rintro b' ⟨i,oi,ci,e1,e2,e3⟩
  by_cases hi:i=id
  ·subst hi;exact⟨i,o,ci,ho,hl,e3⟩
  ·rw[List.getElem?_set_ne (Ne.symm hi)] at e1;exact⟨i,oi,ci,e1,e2,e3⟩
 have hown:∀ b',own (hp.set id o') M b'→own hp M b':=fun b' h=>Kve h (hob b') (fun g=>g.of (Kvf hog)) rfl
 have hother:∀ k,k≠b→(w.setRow b (setAt cs.toList off vs).toArray).heap[k]?=w.heap[k]?:=fun k hk=>setRow_other w b k _ hk
 have htags:=hr.tags ⟨id,o,c,ho,hl,hM⟩ (fun k _ hk=>hother k hk)
 have hst:Stp w (own hp M) (w.setRow b (setAt cs.toList off vs).toArray) (own (hp.set id o') M):=
  .mk' (by simp) (fun b' _ hn=>hother b' fun e=>hn (e▸.inl ⟨id,o,c,ho,hl,hM⟩)) (fun b' _ h=>hown b' h) rfl rfl rfl rfl (fun g=>g.of (Kvf hog)) (hr.bags.ht htags)
 refine⟨_,hrun,⟨by simp[hr.len],fun i oi m e1 e2=>?_,fun b' hb' hz=>hr.apart b' (hown b' hb') hz,fun b' hz=>by have:=hr.old b' hz;simp;exact this,hr.amb_stp hst,fun i j oi oj b1 c1 c2 e1 e2 l1 l2 m1 m2=>?_,hr.bags.mono rfl (by simp) (fun b' _=>hob b') (Kvf hog)⟩,?_⟩
 ·by_cases hi:i=id
  ·subst hi
   simp[hid] at e1
   subst e1
   rw[hM] at e2
   cases e2
   exact ho' _ (Kvj Z hst) (setRow_heap w b cs _ t _ hb)
  ·rw[List.getElem?_set_ne (Ne.symm hi)] at e1
   have:=hr.obj i oi m e1 e2
   refine this.move (k:=M.l.length) (Kvj Z hst) (fun _ _=>rfl) this.bel (fun b' c' e hl2=>?_) (hr.bags.kp htags rfl e1)
   subst e
   refine hother b' fun e=>hi ?_
   subst e
   exact hr.inj i id oi o b' c' c e1 ho hl2 hl e2 hM
 ·have key:∀ (i:Nat) (oi:Ob),(hp.set id o')[i]?=some oi→oi.live=true→∃ oi':Ob,hp[i]?=some oi'∧oi'.live=true:=fun i oi e1 l1=>by
   by_cases hi:i=id
   ·subst hi;exact⟨o,ho,hl⟩
   ·rw[List.getElem?_set_ne (Ne.symm hi)] at e1;exact⟨oi,e1,l1⟩
  obtain⟨oi',f1,f2⟩:=key i oi e1 l1
  obtain⟨oj',f3,f4⟩:=key j oj e2 l2
  exact hr.inj i j oi' oj' b1 c1 c2 f1 f3 f2 f4 m1 m2
 ·exact hst
theorem CellsR.setAt{O:Ow}{cs vs:Array Value}{gs new:List G}{off:Nat}(hc:CellsR w O M cs gs)(hn:CellsR w O M vs new)(hl:vs.size=new.length)(hf:off+new.length≤gs.length)(hf':gs.length≤cs.size) :
  CellsR w O M (Gk.setAt cs.toList off vs.toList).toArray (Gk.setAt gs off new):=by
 intro j g hj
 rw[Kxp hf] at hj
 have e:(Gk.setAt cs.toList off vs.toList).toArray[j]?=if off≤j∧j<off+new.length then vs[j - off]? else cs[j]?:=by
  rw[List.getElem?_toArray,Kxp (by simp;omega)]
  simp[hl]
 rw[e]
 by_cases h1:off≤j∧j<off+new.length
 ·rw[if_pos h1] at hj ⊢;exact hn _ g hj
 ·rw[if_neg h1] at hj ⊢;exact hc j g hj
theorem Kxs(hΓ:TOK P Γ){t tb:TypeId}{x y:Operand}{i:TI}{id off:Nat}{gs new:List G}(hi:Γ t=some i)(hx:fr.ev x=some (.ptr id off))(ho:hp[id]?=some (.box tb gs))(hy:fr.ev y=some g)(hg:cellsG g=some new)
  (h1:new.all G.one=true) (hsz:Nat.beq new.length i.size=true) (hfit:Nat.ble (off+new.length) gs.length=true) (hF:F≤hp.length)
  (k:EO P F N ops rest Q fr (hp.set id (.box tb (setAt gs off new)))):EO P F N ops (⟨none,.store t x y,ty,pos,after,none⟩ :: rest) Q fr hp:=by
 refine eo_u hF (fun Z w M a hr=>?_) k
 have hvx:=hr.ev hx
 have hvy:=Kxl (hr.ev hy) hg h1
 simp only[execOp]
 generalize a.eval x=vx at hvx
 cases hvx with
 | ptr hM=>
  rename_i b c
  obtain⟨cs,hb,hl,hcr⟩:=hr.heap.obj id _ _ ho hM
  have hfit':=nBe hfit
  have hvl:(a.eval y).cells.toList.length=new.length:=by simp[hvy.1]
  obtain⟨w',r1,r2,r3⟩:=Kxr (P:=P) (o':=.box tb (setAt gs off new)) hr.heap ho rfl hM hb (off:=off) (vs:=(a.eval y).cells.toList) (by rw[hvl,hl];exact hfit') (fun v hv=>by
    obtain⟨j,hj⟩:=List.getElem?_of_mem hv
    have hlt:j<new.length:=by rw[←hvl];exact(gEs.1 hj).1
    obtain⟨u,e1,e2,_⟩:=hvy.2 j _ (gGe hlt)
    have:some v=some u:=by rw[←e1,←hj];simp
    cases this;exact e2)
   (fun w' hst hh=>⟨_,hh,by simp[Kxq (show off+(a.eval y).cells.toList.length≤cs.toList.length by rw[hvl];simp[hl];exact hfit'),Kxq hfit',hl],CellsR.setAt
    (fun j g hj=>let ⟨v,e1,e2,e3⟩:=hcr j g hj;⟨v,e1,e2,e3.step hst (fun _ _=>rfl)⟩) (fun j g hj=>let ⟨v,e1,e2,e3⟩:=hvy.2 j g hj;⟨v,e1,e2,e3.step hst (fun _ _=>rfl)⟩) hvy.1 hfit' (by omega)⟩) rfl
  refine⟨w',M,?_,r2,r3,⟨by rw[hr.heap.len];exact Nat.le_refl _,fun _ _=>rfl⟩⟩
  have hs:=run_size' (P:=P) (w:=w) hΓ hi
  have:(a.eval y).cells.size=i.size:=by rw[hvy.1];exact nEq hsz
  simp[Instr.storeAt,Instr.sureAddr,storeVar,hs,this,r1]
end
end Go.Gk
namespace Go.Gk
section
variable{P:Program}{Γ:TypeId→Option TI}{F N:Nat}{fr:Fr}{hp:List Ob}{g:G}{Q:GPost}{ops:Array Oper}{rest:List Oper}
variable{d:Tmp}{ty:TypeId}{pos:String}{after:Array Edge}
def G.Le(g g':G):Prop:=∀ (w:World) (O:Ow) (M:Mp) (v:Value),VR w O M g v→VR w O M g' v
theorem G.Le.refl(g:G):g.Le g:=fun _ _ _ _ h=>h
theorem G.Le.nil:G.Le (.d (.v (.slice none 0 0))) (.d (.ro 0 [])):=fun _ _ _ _ h=>by rw[vr_v h];exact .d .nil
def G.LeAll:List G→List G→Prop
 | [],[]=>True
 | g :: r,g' :: r'=>g.Le g'∧G.LeAll r r'
 | _,_=>False
theorem G.LeAll.spec:∀ {l l':List G},G.LeAll l l'→l.length=l'.length∧∀ (j:Nat) (g':G),l'[j]?=some g'→∃ g,l[j]?=some g∧g.Le g'
 | [],[],_=>⟨rfl,fun j g h=>by simp at h⟩
 | g :: r,g' :: r',h=>by
  obtain⟨h1,h2⟩:=G.LeAll.spec h.2
  refine⟨by simp[h1],fun j g0 hj=>?_⟩
  cases j with
  | zero=>simp at hj;subst hj;exact⟨g,rfl,h.1⟩
  | succ j=>exact h2 j g0 (by simpa using hj)
 | [],_ :: _,h=>h.elim
 | _ :: _,[],h=>h.elim
theorem G.Le.agg{l l':List G}(h:G.LeAll l l'):G.Le (.agg l) (.agg l'):=fun w O M v hv=>by
 obtain⟨h1,h2⟩:=h.spec
 cases hv with
 | agg hl hr=>exact .agg (by omega) fun j g' v hg hv=>let ⟨g,e,hle⟩:=h2 j g' hg;hle w O M v (hr j g v e hv)
theorem Kxt{l:List Oper}{fr':Fr}{hp':List Ob}(hF:F≤hp.length)(h:∀ Z w M a,Rel Z hp M w fr a N→∃ M',Rel Z hp' M' w fr' a N∧Stp w (own hp M) w (own hp' M')∧Agr hp.length M M')(k:EO P F N ops l Q fr' hp') :
  EO P F N ops l Q fr hp:=fun Z w0 O0 M0 w M a hs ha hr=>
 let ⟨M',h1,h2,h3⟩:=h Z w M a hr
 k Z w0 O0 M0 w M' a (hs.trans h2) (ha.trans h3 hF) h1
theorem Kxu{te:TypeId}{sz:Nat}(t:Nat)(ht:fr.get t=some (.d (.v (.slice none 0 0)))):∀ Z w M a,Rel Z hp M w fr a N→∃ M',Rel Z (hp++[.row te sz 0 []]) M' w ((t,.sl hp.length 0) :: fr) a N∧Stp w (own hp M) w (own (hp++[.row te sz 0 []]) M')∧Agr hp.length M M':=by
 intro Z w M a hr
 have hM:∀ i,i<M.l.length→(M.app [none]).l[i]?=M.l[i]?:=fun i hi=>gAl hi
 have hob:∀ b,obOwn (hp++[.row te sz 0 []]) (M.app [none]) b→obOwn hp M b:=by
  rintro b ⟨i,o,c,h1,h2,h3⟩
  rcases Kxj h3 with⟨hi,h4⟩ | ⟨hi,h4⟩
  ·rw[gAl (by rw[←hr.heap.len];exact hi)] at h1
   exact⟨i,o,c,h1,h2,h4⟩
  cases h4
 have hown:∀ b,own (hp++[.row te sz 0 []]) (M.app [none]) b→own hp M b:=fun b h=>Kve h (hob b) (fun g=>g.of (Kvg rfl)) rfl
 have hst:Stp w (own hp M) w (own (hp++[.row te sz 0 []]) (M.app [none])):=.still (fun b _ h=>hown b h) rfl fun g=>g.of (Kvg rfl)
 refine⟨M.app [none],⟨⟨by simp[hr.heap.len],fun i o m h1 h2=>?_,fun b hb hz=>hr.heap.apart b (hown b hb) hz,hr.heap.old,hr.heap.amb,fun i j oi oj b c c' hi hj li lj mi mj=>?_,hr.heap.bags.mono rfl (Nat.le_refl _) (fun b _=>hob b) (Kvg rfl)⟩,fun t' g h=>?_,hr.size,hr.defers⟩,hst,⟨by simp[hr.heap.len],fun i hi=>hM i (by rw[hr.heap.len];exact hi)⟩⟩
 ·rcases Kxj h1 with⟨hi,h3⟩ | ⟨hi,rfl⟩
  ·rw[hM i (by rw[hr.heap.len];exact hi)] at h2
   have:=hr.heap.obj i o m h3 h2
   exact this.move (k:=M.l.length) (Kvj Z hst) hM this.bel (fun _ _ _ _=>rfl) (fun _ _ _ _=>⟨rfl,fun _ _ _=>rfl⟩)
  subst hi
  rw[←hr.heap.len] at h2
  rcases Kxj h2 with⟨hi,_⟩ | ⟨_,h⟩
  ·omega
  subst h;exact⟨rfl,rfl⟩
 ·rcases Kxj mi with⟨hi1,hi2⟩ | ⟨_,hi2⟩
  ·rcases Kxj mj with⟨hj1,hj2⟩ | ⟨_,hj2⟩
   ·rw[gAl (by rw[←hr.heap.len];exact hi1)] at hi
    rw[gAl (by rw[←hr.heap.len];exact hj1)] at hj
    exact hr.heap.inj i j oi oj b c c' hi hj li lj hi2 hj2
   cases hj2
  cases hi2
 simp only[Fr.get] at h
 cases hk:Nat.beq t t' with
 | true=>
  rw[hk] at h
  have:=nEq hk
  subst this
  cases h
  obtain⟨v,h1,h2⟩:=hr.fr t _ ht
  refine⟨v,h1,?_⟩
  rw[vr_v h2]
  exact .slnil (by rw[←hr.heap.len];simp)
 | false=>
  rw[hk] at h
  obtain⟨v,h1,h2⟩:=hr.fr t' g h
  exact⟨v,h1,h2.step (Kvj Z hst) hM⟩
end
end Go.Gk
