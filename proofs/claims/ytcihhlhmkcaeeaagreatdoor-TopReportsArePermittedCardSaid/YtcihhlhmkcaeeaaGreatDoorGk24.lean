import Derived.Test.YtcihhlhmkcaeeaaGreatDoorGk19
import Derived.KernelRfl
import Derived.Laws.StructEq
set_option linter.all false
namespace Go.Gk
theorem Oper.wp_mono2{P:Program}{o:Oper}{a:Act}{w:World}{K K':Act→World→Prop}{Q Q':Exit→Act→World→Prop}(h:∀ a w,K a w→K' a w)(hq:∀ e a w,e≠.normal→Q e a w→Q' e a w)
  (hh:o.wp P a w K Q):o.wp P a w K' Q':=by
 unfold Oper.wp at *
 generalize (execOp a.eval o).run P w=r at *
 have hlet:LetsOut Q→LetsOut Q':=fun ⟨a,w,h⟩=>⟨a,w,hq _ _ _ (by simp) h⟩
 cases r with
 | ok n w'=>
  cases n with
  | enter f args=>
   simp only[Oper.upon] at hh ⊢
   refine hh.mono fun e w' he=>?_
   cases e with
   | returned v=>exact h _ _ he
   | panicked c=>exact hq _ _ _ (by simp) he
   | outgrown=>exact hlet he
  | row r args=>exact Rows.mono hh fun v w' hv=>h _ _ hv
  | value v=>exact h _ _ hh
  | skip=>exact h _ _ hh
  | defer d=>exact h _ _ hh
  | _=>exact hh
 | halt hl w'=>
  cases hl with
  | panic v=>exact hq _ _ _ (by simp) hh
  | _=>exact hh
theorem Kdf{P:Program}{ops:Array Oper}{Q:Exit→Act→World→Prop}{Q1:Exit→Act→World→Prop}{l2:List Oper}(h1:∀ a w,Q1 .normal a w→wpList P ops Q l2 a w)(h2:∀ e a w,e≠.normal→Q1 e a w→Q e a w) :
  ∀ (l1:List Oper) (a:Act) (w:World),wpList P ops Q1 l1 a w→wpList P ops Q (l1++l2) a w
 | [],a,w,h=>h1 a w h
 | o :: l1,a,w,h=>by
  simp only[List.cons_append,wpList] at h ⊢
  split
  ·rename_i hw
   rw[if_pos hw] at h
   rcases h with h | ⟨h,a',w',hl⟩
   ·exact .inl (Oper.wp_mono2 (fun a w=>Kdf h1 h2 l1 a w) h2 h)
   ·exact .inr ⟨h,a',w',h2 _ _ _ (by simp) hl⟩
  ·rename_i hw
   rw[if_neg hw] at h
   exact Kdf h1 h2 l1 _ _ h
inductive Kt where
 | seq (y:Code)
 | block (id:Nat)
 | mid (M:Fr→List Ob→Prop)
inductive St where
 | code (c:Code) (ks:List Kt)
 | ops (full:Array Oper) (l:List Oper) (ks:List Kt)
 | draw (full:Array Oper) (l:List Oper) (ks:List Kt)
 | fin (e:Exit) (ks:List Kt)
section
variable(P:Program)(F N:Nat)(Q:GPost)
def stk:List Kt→GPost
 | []=>Q
 | .seq y :: ks=>fun e fr hp=>match e with | .normal=>EW P F N y (stk ks) fr hp | e=>stk ks e fr hp
 | .block id :: ks=>GBlock id (stk ks)
 | .mid M :: ks=>fun e fr hp=>match e with | .normal=>M fr hp | e=>stk ks e fr hp
def St.holds:St→Fr→List Ob→Prop
 | .code c ks,fr,hp=>EW P F N c (stk P F N Q ks) fr hp
 | .ops full l ks,fr,hp=>EO P F N full l (stk P F N Q ks) fr hp
 | .draw full l ks,fr,hp=>GL P N hp full (fun fr'=>stk P F N Q ks .normal fr' hp) l fr
 | .fin e ks,fr,hp=>stk P F N Q ks e fr hp
end
def ostep(Γ:TypeId→Option TI)(N:Nat)(full:Array Oper)(fr:Fr)(hp:List Ob):Oper→Option Fr
 | ⟨some d,op,_,_,_,none⟩=>bif Nat.blt d N then(pst Γ fr hp op).map fun g=>(d,g) :: fr else none
 | ⟨some d,op,_,_,_,some (j,want)⟩=>match fr.guard full j want with
  | some true=>bif Nat.blt d N then(pst Γ fr hp op).map fun g=>(d,g) :: fr else none
  | some false=>bif Nat.blt d N then some ((d,.tup []) :: fr) else none
  | none=>none
 | ⟨none,_,_,_,_,some (j,want)⟩=>match fr.guard full j want with
  | some false=>some fr
  | _=>none
 | _=>none
def gstep(Γ:TypeId→Option TI)(N:Nat)(full:Array Oper)(fr:Fr)(hp:List Ob):Oper→Option Fr
 | ⟨some d,op,ty,pos,after,none⟩=>bif Nat.blt d N then(pst Γ (fr.only (Oper.looksAt full ⟨some d,op,ty,pos,after,none⟩)) hp op).map fun g=>(d,g) :: fr else none
 | ⟨some d,op,ty,pos,after,some (j,want)⟩=>match fr.guard full j want with
  | some true=>bif Nat.blt d N then(pst Γ (fr.only (Oper.looksAt full ⟨some d,op,ty,pos,after,some (j,want)⟩)) hp op).map fun g=>(d,g) :: fr else none
  | some false=>bif Nat.blt d N then some ((d,.tup []) :: fr) else none
  | none=>none
 | _=>none
def mstep(Γ:TypeId→Option TI)(N:Nat)(hp:List Ob):St→Fr→Option (St×Fr)
 | .code (.seq x y) ks,fr=>some (.code x (.seq y :: ks),fr)
 | .code .skip ks,fr=>some (.fin .normal ks,fr)
 | .code .ret ks,fr=>some (.fin .ret ks,fr)
 | .code (.exit i) ks,fr=>some (.fin (.exit i) ks,fr)
 | .code (.block i c) ks,fr=>some (.code c (.block i :: ks),fr)
 | .code (.region _ ops false) ks,fr=>some (.ops ops ops.toList ks,fr)
 | .code (.cond (.tmp t) x y) ks,fr=>match fr.get t with
  | some (.d (.v (.bool true)))=>some (.code x ks,fr)
  | some (.d (.v (.bool false)))=>some (.code y ks,fr)
  | _=>none
 | .ops _ [] ks,fr=>some (.fin .normal ks,fr)
 | .ops full (o :: rest) ks,fr=>(ostep Γ N full fr hp o).map fun fr'=>(.ops full rest ks,fr')
 | .draw _ [] ks,fr=>some (.fin .normal ks,fr)
 | .draw full (o :: rest) ks,fr=>(gstep Γ N full fr hp o).map fun fr'=>(.draw full rest ks,fr')
 | .fin .normal (.seq y :: ks),fr=>some (.code y ks,fr)
 | .fin .normal (.block _ :: ks),fr=>some (.fin .normal ks,fr)
 | .fin .ret (.seq _ :: ks),fr=>some (.fin .ret ks,fr)
 | .fin .ret (.block _ :: ks),fr=>some (.fin .ret ks,fr)
 | .fin .ret (.mid _ :: ks),fr=>some (.fin .ret ks,fr)
 | .fin (.exit i) (.seq _ :: ks),fr=>some (.fin (.exit i) ks,fr)
 | .fin (.exit i) (.block j :: ks),fr=>bif Nat.beq i j then some (.fin .normal ks,fr) else some (.fin (.exit i) ks,fr)
 | .fin (.exit i) (.mid _ :: ks),fr=>some (.fin (.exit i) ks,fr)
 | _,_=>none
def mrun(Γ:TypeId→Option TI)(N:Nat)(hp:List Ob):Nat→St→Fr→St×Fr
 | 0,st,fr=>(st,fr)
 | n+1,st,fr=>match mstep Γ N hp st fr with
  | some (st',fr')=>mrun Γ N hp n st' fr'
  | none=>(st,fr)
section
variable{P:Program}{Γ:TypeId→Option TI}{F N:Nat}{Q:GPost}{fr fr':Fr}{hp:List Ob}{ks:List Kt}
theorem Kdg{ops:Array Oper}{rest:List Oper}{op:Op}{ty:TypeId}{pos:String}{after:Array Edge}{Q:GPost}{j:Nat}{want:Bool}(hg:fr.guard ops j want=some false)(h:EO P F N ops rest Q fr hp) :
  EO P F N ops (⟨none,op,ty,pos,after,some (j,want)⟩ :: rest) Q fr hp:=by
 intro Z w0 O0 M0 w M a hs ha hr
 have hw:Region.wanted ⟨none,op,ty,pos,after,some (j,want)⟩ (yielded ops a.tmps)=false:=Kpc hr hg
 unfold wpList
 rw[hw]
 exact h Z w0 O0 M0 w M _ hs ha hr
theorem Kdh(hΓ:TOK P Γ){full:Array Oper}{o:Oper}{rest:List Oper}{Q:GPost}(h:ostep Γ N full fr hp o=some fr')(k:EO P F N full rest Q fr' hp):EO P F N full (o :: rest) Q fr hp:=by
 unfold ostep at h
 split at h
 ·rename_i d op ty pos after
  cases hd:Nat.blt d N with
  | false=>rw[hd] at h;cases h
  | true=>
   rw[hd] at h
   obtain⟨g,hg,rfl⟩:=oMs.1 h
   exact eo_x hΓ hg hd k
 ·rename_i d op ty pos after j want
  split at h
  ·rename_i hgd
   cases hd:Nat.blt d N with
   | false=>rw[hd] at h;cases h
   | true=>
    rw[hd] at h
    obtain⟨g,hg,rfl⟩:=oMs.1 h
    exact Kpe hgd (eo_x hΓ hg hd k)
  ·rename_i hgd
   cases hd:Nat.blt d N with
   | false=>rw[hd] at h;cases h
   | true=>
    rw[hd] at h
    cases h
    exact Kpd hgd hd k
  cases h
 ·rename_i j want
  split at h
  ·rename_i hgd
   cases h
   exact Kdg hgd k
  cases h
 cases h
theorem Kdi(hΓ:TOK P Γ){full:Array Oper}{o:Oper}{rest:List Oper}{QF:Fr→Prop}(h:gstep Γ N full fr hp o=some fr')(k:GL P N hp full QF rest fr'):GL P N hp full QF (o :: rest) fr:=by
 unfold gstep at h
 split at h
 ·rename_i d op ty pos after
  cases hd:Nat.blt d N with
  | false=>rw[hd] at h;cases h
  | true=>
   rw[hd] at h
   obtain⟨g,hg,rfl⟩:=oMs.1 h
   exact gl_x hΓ hg hd k
 ·rename_i d op ty pos after j want
  split at h
  ·rename_i hgd
   cases hd:Nat.blt d N with
   | false=>rw[hd] at h;cases h
   | true=>
    rw[hd] at h
    obtain⟨g,hg,rfl⟩:=oMs.1 h
    exact Kby hΓ hgd hg hd k
  ·rename_i hgd
   cases hd:Nat.blt d N with
   | false=>rw[hd] at h;cases h
   | true=>
    rw[hd] at h
    cases h
    exact Kbv hd hgd k
  cases h
 cases h
theorem Kdj(hΓ:TOK P Γ){st st':St}(h:mstep Γ N hp st fr=some (st',fr'))(k:St.holds P F N Q st' fr' hp):St.holds P F N Q st fr hp:=by
 unfold mstep at h
 split at h<;>try (first | (cases h;done) | cases h)
 ·exact Koj k
 ·exact Kok k
 ·exact Kol k
 ·exact Kom k
 ·exact Kon k
 ·rename_i id ops ks
  have:=Kph (P:=P) (F:=F) (N:=N) (Q:=stk P F N Q ks) (fr:=fr) (hp:=hp) (id:=id) (l:=ops.toList)
  simp only[Array.toArray_toList] at this
  exact this k
 ·split at h
  ·rename_i hb;cases h;exact Koq hb k
  ·rename_i hb;cases h;exact Kor hb k
  cases h
 ·exact Kpb k
 ·obtain⟨f,hf,e⟩:=oMs.1 h
  cases e
  exact Kdh hΓ hf k
 ·exact Kbu k
 ·obtain⟨f,hf,e⟩:=oMs.1 h
  cases e
  exact Kdi hΓ hf k
 ·exact k
 ·exact k
 ·exact k
 ·exact k
 ·exact k
 ·exact k
 ·rename_i i j ks
  cases hb:Nat.beq i j with
  | true=>
   rw[hb] at h;cases h
   show GBlock j (stk P F N Q ks) (.exit i) fr hp
   simp only[GBlock,hb]
   exact k
  | false=>
   rw[hb] at h;cases h
   show GBlock j (stk P F N Q ks) (.exit i) fr hp
   simp only[GBlock,hb]
   exact k
 exact k
theorem go(hΓ:TOK P Γ):∀ (n:Nat) {st st':St} {fr fr':Fr},mrun Γ N hp n st fr=(st',fr')→St.holds P F N Q st' fr' hp→St.holds P F N Q st fr hp
 | 0,st,st',fr,fr',h,k=>by cases h;exact k
 | n+1,st,st',fr,fr',h,k=>by
  unfold mrun at h
  split at h
  ·rename_i st1 fr1 h1
   exact Kdj hΓ h1 (go hΓ n h k)
  cases h;exact k
theorem Kdk(hΓ:TOK P Γ)(n:Nat){full:Array Oper}{l:List Oper}{st':St}(h:mrun Γ N hp n (.ops full l ks) fr=(st',fr'))(k:St.holds P F N Q st' fr' hp):EO P F N full l (stk P F N Q ks) fr hp:=go (st:=.ops full l ks) hΓ n h k
theorem Kdl(hΓ:TOK P Γ)(n:Nat){full:Array Oper}{l:List Oper}{st':St}(h:mrun Γ N hp n (.draw full l ks) fr=(st',fr'))(k:St.holds P F N Q st' fr' hp):GL P N hp full (fun fr'=>stk P F N Q ks .normal fr' hp) l fr:=go (st:=.draw full l ks) hΓ n h k
theorem Kdm{c:Code}(k:St.holds P F N Q (.code c []) fr hp):EW P F N c Q fr hp:=k
theorem Kdn{t:Tmp}{x y:Code}{b:Bool}(hb:fr.get t=some (.d (.v (.bool b))))(h1:b=true→St.holds P F N Q (.code x ks) fr hp)(h2:b=false→St.holds P F N Q (.code y ks) fr hp):St.holds P F N Q (.code (.cond (.tmp t) x y) ks) fr hp:=
 Kop hb h1 h2
theorem Kdo{t:Tmp}{x y:Code}{b:Bool}(hb:fr.get t=some (.d (.v (.bool b))))(e:b=true)(h1:St.holds P F N Q (.code x ks) fr hp):St.holds P F N Q (.code (.cond (.tmp t) x y) ks) fr hp:=
 Koq (Kct hb e) h1
theorem Kdp{t:Tmp}{x y:Code}{b:Bool}(hb:fr.get t=some (.d (.v (.bool b))))(e:b=false)(h1:St.holds P F N Q (.code y ks) fr hp):St.holds P F N Q (.code (.cond (.tmp t) x y) ks) fr hp:=
 Kor (Kct hb e) h1
theorem Kdq{id:Nat}{ops:Array Oper}(hm:P.follows .mixedOrders=true)(hB:Region.lexB .any ops=true)(h:St.holds P F N Q (.draw ops ops.toList ks) fr hp):St.holds P F N Q (.code (.region id ops true) ks) fr hp:=by
 have:=Kbt (P:=P) (F:=F) (N:=N) (Q:=stk P F N Q ks) (fr:=fr) (hp:=hp) (id:=id) (l:=ops.toList) hm
 simp only[Array.toArray_toList] at this
 exact this hB h
def MidP(F:Nat)(fr1:Fr)(ob1:List Ob):Fr→List Ob→Prop:=fun fr' hp'=>fr1.Sub fr'∧∃ ex,hp'=ob1++ex∧(ex=[]∨(HB ob1.length ob1∧fr1.FB ob1.length∧F≤ob1.length))
theorem Kdr{c:Code}{Q:GPost}{fr1:Fr}{ob1:List Ob}(hm:MidP F fr1 ob1 fr hp)(h:EW P F N c Q fr1 ob1):EW P F N c Q fr hp:=by
 obtain⟨hs,ex,rfl,he | ⟨h1,h2,h3⟩⟩:=hm
 ·subst he
  rw[List.append_nil]
  exact Kos fr1 hs h
 exact Kos fr1 hs (Kow h1 h2 h3 h)
theorem eo_sub'{full:Array Oper}{l:List Oper}{Q:GPost}(fr2:Fr)(hs:fr2.Sub fr)(h:EO P F N full l Q fr2 hp):EO P F N full l Q fr hp:=
 fun Z w0 O0 M0 w M a hs' ha hr=>h Z w0 O0 M0 w M a hs' ha (hr.sub hs)
theorem eo_cut'{full:Array Oper}{l:List Oper}{Q:GPost}{ex:List Ob}(hb:HB hp.length hp)(hf:fr.FB hp.length)(hF:F≤hp.length)(h:EO P F N full l Q fr hp):EO P F N full l Q fr (hp++ex):=
 fun Z w0 O0 M0 w M a hs ha hr=>h Z w0 O0 M0 w _ a (Kov hs) (ha.cut hF (by rw[hr.heap.len];simp)) (hr.cut hb hf)
theorem eo_weak'{full:Array Oper}{l:List Oper}{Q:GPost}{fr1:Fr}{ob1:List Ob}(hm:MidP F fr1 ob1 fr hp)(h:EO P F N full l Q fr1 ob1):EO P F N full l Q fr hp:=by
 obtain⟨hs,ex,rfl,he | ⟨h1,h2,h3⟩⟩:=hm
 ·subst he
  rw[List.append_nil]
  exact eo_sub' fr1 hs h
 exact eo_sub' fr1 hs (eo_cut' h1 h2 h3 h)
theorem Kds{full:Array Oper}{Q Q1:GPost}{l1 l2:List Oper}(h1:EO P F N full l1 Q1 fr hp)(h2:∀ fr' hp',Q1 .normal fr' hp'→EO P F N full l2 Q fr' hp')(h3:∀ e fr' hp',e≠.normal→Q1 e fr' hp'→Q e fr' hp'):EO P F N full (l1++l2) Q fr hp:=by
 intro Z w0 O0 M0 w M a hs ha hr
 refine Kdf (Q1:=Post Z F N Q1 w0 O0 M0) ?_ ?_ l1 a w (h1 Z w0 O0 M0 w M a hs ha hr)
 ·rintro a w ⟨fr',hp',M',hq,r1,r2,r3⟩
  exact h2 fr' hp' hq Z w0 O0 M0 w M' a r2 r3 r1
 rintro e a w he ⟨fr',hp',M',hq,r⟩
 exact⟨fr',hp',M',h3 _ _ _ he hq,r⟩
theorem Kdt(n:Nat){full:Array Oper}{l:List Oper}(fr1:Fr)(ob1:List Ob)(h1:St.holds P F N Q (.ops full (l.take n) (.mid (MidP F fr1 ob1) :: ks)) fr hp)(h2:EO P F N full (l.drop n) (stk P F N Q ks) fr1 ob1) :
  EO P F N full l (stk P F N Q ks) fr hp:=by
 have:=Kds (P:=P) (F:=F) (N:=N) (full:=full) (Q:=stk P F N Q ks) (Q1:=stk P F N Q (.mid (MidP F fr1 ob1) :: ks)) (l1:=l.take n) (l2:=l.drop n) (fr:=fr) (hp:=hp) h1 (fun fr' hp' h=>eo_weak' h h2) (fun e fr' hp' he h=>by cases e<;>first | exact absurd rfl he | exact h)
 rwa [List.take_append_drop] at this
theorem Kdu{ops:Array Oper}{QF QF1:FF→Prop}{l2:List Oper}(h2:∀ F,QF1 F→lexG P N hp ops QF l2 F):∀ (l1:List Oper) (F:FF),lexG P N hp ops QF1 l1 F→lexG P N hp ops QF (l1++l2) F
 | [],F,h=>h2 F h
 | o :: l1,F,⟨g,hy,h⟩=>⟨g,hy,Kdu h2 l1 _ h⟩
theorem Kdv{ops:Array Oper}{QF QF1:Fr→Prop}{l1 l2:List Oper}(h1:GL P N hp ops QF1 l1 fr)(h2:∀ fr',QF1 fr'→GL P N hp ops QF l2 fr'):GL P N hp ops QF (l1++l2) fr:=
 Kdu (fun F ⟨fr',e,hq⟩=>e▸h2 fr' hq) l1 fr.get h1
end
end Go.Gk
namespace Go.Gk
abbrev Str:=List UInt8
def bi{α β:Type}(x:Option α)(f:α→Option β):Option β:=match x with
 | some a=>f a
 | none=>none
theorem Kdw{α β:Type}{x:Option α}{f:α→Option β}{r:β}(h:bi x f=some r):∃ a,x=some a∧f a=some r:=by
 cases x with
 | none=>cases h
 | some a=>exact⟨a,rfl,h⟩
@[simp] theorem bi_some {α β:Type} (a:α) (f:α→Option β):bi (some a) f=f a:=rfl
@[simp] theorem bi_none {α β:Type} (f:α→Option β):bi none f=none:=rfl
theorem cT{α:Type}{c:Bool}{x y:α}{r:α}(h:(bif c then x else y)=r)(hc:c=true):x=r:=by subst hc;exact h
theorem cF{α:Type}{c:Bool}{x y:α}{r:α}(h:(bif c then x else y)=r)(hc:c=false):y=r:=by subst hc;exact h
def gd{α:Type}(c:Bool)(x:Option α):Option α:=bif c then x else none
theorem Kdx{α:Type}{c:Bool}{x:Option α}{r:α}(h:gd c x=some r):c=true∧x=some r:=by
 cases c
 ·cases h
 exact⟨rfl,h⟩
@[simp] theorem gd_true {α:Type} (x:Option α):gd true x=x:=rfl
def getZ{α:Type}(l:List α):Int→Option α
 | .ofNat i=>l[i]?
 | .negSucc _=>none
theorem Kdy{α:Type}{l:List α}{k:Int}{x:α}(h:getZ l k=some x):∃ i:Nat,k=(i:Int)∧i<l.length∧l[i]?=some x:=by
 cases k with
 | ofNat i=>exact⟨i,rfl,(gEs.1 h).1,h⟩
 | negSucc i=>cases h
theorem Kdz{α:Type}{l:List α}{i:Nat}{x:α}(h:l[i]?=some x):getZ l (i:Int)=some x:=h
@[simp] theorem getZ_cast {α:Type} (l:List α) (i:Nat):getZ l (i:Int)=l[i]?:=rfl
def subZ{α:Type}(l:List α)(lo hi:Int):Option (List α):=bif decide (0≤lo)&&decide (lo≤hi)&&decide (hi≤(l.length:Int)) then some ((l.take hi.toNat).drop lo.toNat) else none
theorem Kea{α:Type}{l r:List α}{lo hi:Int}(h:subZ l lo hi=some r):∃ a b:Nat,lo=(a:Int)∧hi=(b:Int)∧a≤b∧b≤l.length∧r=(l.take b).drop a:=by
 unfold subZ at h
 cases hc:(decide (0≤lo)&&decide (lo≤hi)&&decide (hi≤(l.length:Int))) with
 | false=>rw[hc] at h;cases h
 | true=>
  rw[hc] at h
  simp only[Bool.and_eq_true,decide_eq_true_eq] at hc
  cases h
  exact⟨lo.toNat,hi.toNat,by omega,by omega,by omega,by omega,rfl⟩
def apd{α:Type}(l m:List α):Option (List α):=bif Nat.ble (l.length+m.length) 4294967296 then some (l++m) else none
theorem Keb{α:Type}{l m r:List α}(h:apd l m=some r):r=l++m∧l.length+m.length≤4294967296:=by
 unfold apd at h
 cases hc:Nat.ble (l.length+m.length) 4294967296 with
 | false=>rw[hc] at h;cases h
 | true=>rw[hc] at h;cases h;exact⟨rfl,nBe hc⟩
def putZ{α:Type}(l:List α)(k:Int)(x:α):Option (List α):=match k with
 | .ofNat i=>bif Nat.blt i l.length then some (l.set i x) else none
 | .negSucc _=>none
inductive LS (σ ρ:Type) where
 | go (s:σ)
 | out (r:ρ)
def loopM{σ ρ:Type}(f:σ→Option (LS σ ρ)):Nat→σ→Option ρ
 | 0,_=>none
 | k+1,s=>match f s with
  | some (.go s')=>loopM f k s'
  | some (.out r)=>some r
  | none=>none
def rangeM{α σ ρ:Type}(f:Nat→α→σ→Option (LS σ ρ)):Nat→List α→σ→Option (LS σ ρ)
 | _,[],s=>some (.go s)
 | i,x :: l,s=>match f i x s with
  | some (.go s')=>rangeM f (i+1) l s'
  | some (.out r)=>some (.out r)
  | none=>none
abbrev wi(n:Int):Int:=IntKind.i64.wrap n
section
variable{P:Program}{Γ:TypeId→Option TI}{F N:Nat}{Q:GPost}{fr fr':Fr}{hp:List Ob}{ks:List Kt}
theorem MidP.ex{fr1:Fr}{ob1:List Ob}(h:MidP F fr1 ob1 fr hp):∃ ex,fr1.Sub fr∧hp=ob1++ex∧(ex=[]∨(HB ob1.length ob1∧fr1.FB ob1.length∧F≤ob1.length)):=by
 obtain⟨h1,ex,h2,h3⟩:=h
 exact⟨ex,h1,h2,h3⟩
theorem Kec{σ ρ:Type}{c:Code}{f:σ→Option (LS σ ρ)}{fuel:Nat}{s0:σ}{r:ρ}(h:loopM f fuel s0=some r)(st:σ→Fr)(ob:σ→List Ob)(hm:MidP F (st s0) (ob s0) fr hp)
  (round:∀ s x,f s=some x→(∀ r',x=.out r'→r=r')→St.holds P F N Q (.code c (.mid (fun fr' hp'=>∃ s',x=.go s'∧MidP F (st s') (ob s') fr' hp') :: ks)) (st s) (ob s)) :
  St.holds P F N Q (.code (.loop c) ks) fr hp:=by
 refine Kdr hm ?_
 refine Kox (fun n fr hp=>∃ s,loopM f n s=some r∧fr=st s∧hp=ob s) fuel ⟨s0,h,rfl,rfl⟩ ?_
 rintro n fr hp ⟨s,hl,rfl,rfl⟩
 cases n with
 | zero=>cases hl
 | succ n=>
  simp only[loopM] at hl
  cases hx:f s with
  | none=>rw[hx] at hl;cases hl
  | some x=>
   rw[hx] at hl
   refine Koo (round s x hx fun r' e=>by subst e;simp at hl;exact hl.symm) fun e fr' hp' h'=>?_
   cases e with
   | normal=>
    obtain⟨s',rfl,hm'⟩:=h'
    obtain⟨ex,h1,h2,h3⟩:=hm'.ex
    exact⟨n,st s',ob s',ex,Nat.lt_succ_self n,⟨s',hl,rfl,rfl⟩,h1,h2,h3⟩
   | _=>exact h'
theorem Ked{α σ ρ:Type}{f:Nat→α→σ→Option (LS σ ρ)}{l:List α}{i:Nat}{x:α}{s:σ}{r:LS σ ρ}(hx:l[i]?=some x)(h:rangeM f i (l.drop i) s=some r) :
  ∃ y,f i x s=some y∧(∀ r',y=.out r'→r=.out r')∧∀ s',y=.go s'→rangeM f (i+1) (l.drop (i+1)) s'=some r:=by
 have hlt:=(gEs.1 hx).1
 have e:l.drop i=x :: l.drop (i+1):=by
  rw[List.drop_eq_getElem_cons hlt]
  have:=(gEs.1 hx).2
  rw[this]
 rw[e] at h
 simp only[rangeM] at h
 cases hy:f i x s with
 | none=>rw[hy] at h;cases h
 | some y=>
  rw[hy] at h
  refine⟨y,rfl,fun r' e=>?_,fun s' e=>?_⟩
  ·subst e;simp at h;exact h.symm
  ·subst e;exact h
theorem Kee{α σ ρ:Type}{c:Code}(l:List α){f:Nat→α→σ→Option (LS σ ρ)}{s0:σ}{r:LS σ ρ}(h:rangeM f 0 l s0=some r)(st:Nat→σ→Fr)(ob:σ→List Ob)(hm:MidP F (st 0 s0) (ob s0) fr hp)
  (round:∀ i x s y,l[i]?=some x→i<l.length→f i x s=some y→(∀ r',y=.out r'→r=.out r')→St.holds P F N Q (.code c (.mid (fun fr' hp'=>∃ s',y=.go s'∧MidP F (st (i+1) s') (ob s') fr' hp') :: ks)) (st i s) (ob s))
  (done:∀ s,r=.go s→St.holds P F N Q (.code c (.mid (fun _ _=>False) :: ks)) (st l.length s) (ob s)) :
  St.holds P F N Q (.code (.loop c) ks) fr hp:=by
 refine Kdr hm ?_
 refine Kox (fun n fr hp=>∃ i s,i≤l.length∧n=l.length - i∧rangeM f i (l.drop i) s=some r∧fr=st i s∧hp=ob s) l.length ⟨0,s0,Nat.zero_le _,rfl,h,rfl,rfl⟩ ?_
 rintro n fr hp ⟨i,s,hi,rfl,hl,rfl,rfl⟩
 by_cases hlt:i<l.length
 ·have hx:=gGe hlt
  obtain⟨y,h1,h2,h3⟩:=Ked hx hl
  refine Koo (round i _ s y hx hlt h1 h2) fun e fr' hp' h'=>?_
  cases e with
  | normal=>
   obtain⟨s',rfl,hm'⟩:=h'
   obtain⟨ex,e1,e2,e3⟩:=hm'.ex
   exact⟨l.length - (i+1),st (i+1) s',ob s',ex,by omega,⟨i+1,s',hlt,rfl,h3 s' rfl,rfl,rfl⟩,e1,e2,e3⟩
  | _=>exact h'
 ·have:i=l.length:=by omega
  subst this
  rw[List.drop_length] at hl
  simp only[rangeM] at hl
  refine Koo (done s (by cases hl;rfl)) fun e fr' hp' h'=>?_
  cases e with
  | normal=>exact h'.elim
  | _=>exact h'
theorem Kef{c:Code}{n:Nat}{xs:List D}(t:Nat)(ht:fr.get t=some (.d (.ro n xs)))(h:n≤9223372036854775807→St.holds P F N Q (.code c ks) fr hp):St.holds P F N Q (.code c ks) fr hp:=by
 intro Z w0 O0 M0 w M a hs ha hr
 refine h ?_ Z w0 O0 M0 w M a hs ha hr
 obtain⟨v,_,hv⟩:=hr.fr t _ ht
 cases hv with
 | d hd=>
  cases hd with
  | nil=>exact Nat.zero_le _
  | ro _ _ _ _ _ _ _ _ hn hm=>exact Nat.le_trans (Nat.le_trans hn hm) (by decide)
variable{α:Type}{enc:α→List D}{ops:Array Oper}{rest:List Oper}{g:G}
variable{d:Tmp}{ty:TypeId}{pos:String}{after:Array Edge}{gd:Option (Nat×Bool)}
theorem Keg(hΓ:TOK P Γ){t e:TypeId}{i1 i2:TI}{x y:Operand}{l:List α}{z:α}{kd:IntKind}{k:Int}(hz:getZ l k=some z)(h1:Γ t=some i1)(h1':i1.desc=.slice e)(h2:Γ e=some i2)(hx:fr.ev x=some (.d (Sl enc l)))
  (hy:fr.ev y=some (.d (.v (.int kd k)))) (henc:∀ y,(enc y).length=i2.size):OpP P N ⟨some d,.indexAddr t x y,ty,pos,after,gd⟩ fr hp (.rp (enc z)):=by
 obtain⟨i,rfl,hi,hz'⟩:=Kdy hz
 exact Kco hΓ i h1 h1' h2 hx hy rfl hi (fun j d hd=>Kcp (sz:=i2.size) (fun y _=>henc y) hz' j d hd)
theorem Keh(hΓ:TOK P Γ){t:TypeId}{i1:TI}{x y:Operand}{l:List UInt8}{c:UInt8}{kd:IntKind}{k:Int}(hz:getZ l k=some c)(h1:Γ t=some i1)(h1':i1.desc=.string)(hx:fr.ev x=some (S l))(hy:fr.ev y=some (.d (.v (.int kd k)))) :
  OpP P N ⟨some d,.index t x y,ty,pos,after,gd⟩ fr hp (.d (.v (.int .u8 c.toNat))):=by
 obtain⟨i,rfl,hi,hz'⟩:=Kdy hz
 exact Kcx hΓ i h1 h1' hx hy rfl hz'
theorem Kei(hΓ:TOK P Γ){t e:TypeId}{i1 i2:TI}{x y:Operand}{id n:Nat}{l:List α}{z:α}{kd:IntKind}{k:Int}(hz:getZ l k=some z)(h1:Γ t=some i1)(h1':i1.desc=.slice e)(h2:Γ e=some i2)(hx:fr.ev x=some (.sl id n))(hn:n=l.length)
  (hy:fr.ev y=some (.d (.v (.int kd k)))):OpP P N ⟨some d,.indexAddr t x y,ty,pos,after,gd⟩ fr hp (.ptr id (k.toNat * i2.size)):=by
 obtain⟨i,rfl,hi,hz'⟩:=Kdy hz
 exact Kcy hΓ i h1 h1' h2 hx hy rfl (by omega)
theorem Kej(hΓ:TOK P Γ){t:TypeId}{i1:TI}{x:Operand}{lo hi:Option Operand}{s r:List UInt8}{a b:Int}(hz:subZ s a b=some r)(h1:Γ t=some i1)(h1':i1.desc=.string)(hx:fr.ev x=some (S s))(hlo:fr.bound lo 0=some a)(hhi:fr.bound hi s.length=some b) :
  OpP P N ⟨some d,.slice t x lo hi none,ty,pos,after,gd⟩ fr hp (S r):=by
 obtain⟨l,h,rfl,rfl,e1,e2,rfl⟩:=Kea hz
 exact Kci hΓ l h h1 h1' hx hlo hhi e1 e2
theorem Kek{sz:Nat}(henc:∀ y,(enc y).length=sz):∀ (l:List α) (n:Nat),(l.take n).flatMap enc=(l.flatMap enc).take (n * sz)
 | [],n=>by simp
 | x :: l,0=>by simp
 | x :: l,n+1=>by
  rw[List.take_succ_cons,List.flatMap_cons,List.flatMap_cons,Kek henc l n,List.take_append,henc x]
  have e:(n+1) * sz - sz=n * sz:=by rw[Nat.add_mul];omega
  rw[e,List.take_of_length_le (l:=enc x) (by rw[henc x,Nat.add_mul];omega)]
theorem Kel{sz:Nat}(henc:∀ y,(enc y).length=sz):∀ (l:List α) (n:Nat),(l.drop n).flatMap enc=(l.flatMap enc).drop (n * sz)
 | [],n=>by simp
 | x :: l,0=>by simp
 | x :: l,n+1=>by
  rw[List.drop_succ_cons,List.flatMap_cons,Kel henc l n,List.drop_append,henc x]
  have e:(n+1) * sz - sz=n * sz:=by rw[Nat.add_mul];omega
  rw[e,List.drop_eq_nil_of_le (show(enc x).length≤(n+1) * sz by rw[henc x,Nat.add_mul];omega),List.nil_append]
theorem Kem{sz:Nat}(henc:∀ y,(enc y).length=sz)(l:List α):(l.flatMap enc).length=l.length * sz:=Kcq fun y _=>henc y
theorem Ken(hΓ:TOK P Γ){t e:TypeId}{i1 i2:TI}{x:Operand}{lo hi:Option Operand}{l r:List α}{a b:Int}(hz:subZ l a b=some r)(h1:Γ t=some i1)(h1':i1.desc=.slice e)(h2:Γ e=some i2)(hx:fr.ev x=some (.d (Sl enc l)))(hlo:fr.bound lo 0=some a)(hhi:fr.bound hi l.length=some b)(henc:∀ y,(enc y).length=i2.size) :
  OpP P N ⟨some d,.slice t x lo hi none,ty,pos,after,gd⟩ fr hp (.d (Sl enc r)):=by
 obtain⟨n,h,rfl,rfl,e1,e2,rfl⟩:=Kea hz
 have:=Kcj (P:=P) (N:=N) (hp:=hp) (d:=d) (ty:=ty) (pos:=pos) (after:=after) (gd:=gd) hΓ n h h1 h1' h2 hx hlo hhi e1 e2 (Kem henc l)
 have e:Sl enc ((l.take h).drop n)=.ro (h - n) (((l.flatMap enc).take (h * i2.size)).drop (n * i2.size)):=by
  unfold Sl
  rw[Kel henc,Kek henc]
  congr 1
  simp;omega
 rw[e]
 exact this
theorem Keo(hΓ:TOK P Γ){t tb:TypeId}{i:TI}{x:Operand}{id off sz n:Nat}{l:List α}{z:α}(j fo:Nat)(hz:l[j]?=some z)(hi:Γ t=some i)(hx:fr.ev x=some (.ptr id off))(hoff:off=j * sz+fo)(ho:hp[id]?=some (.row tb sz n (l.flatMap enc)))(henc:∀ y,(enc y).length=sz)
  (hg:loadD i ((enc z).drop fo) 0=some g):OpP P N ⟨some d,.load t x,ty,pos,after,gd⟩ fr hp g:=by
 refine Kcz hΓ hi hx ho (fun k dd hd=>?_) hg
 rw[List.getElem?_drop] at hd
 rw[hoff,Nat.add_assoc]
 exact Kcp (sz:=sz) (fun y _=>henc y) hz _ _ hd
theorem Kep{sz:Nat}(henc:∀ y,(enc y).length=sz){x x':α}:∀ {l:List α} {i:Nat},l[i]?=some x→∀ {fo:Nat} {nd:List D},fo+nd.length≤sz→enc x'=setAt (enc x) fo nd→(l.set i x').flatMap enc=setAt (l.flatMap enc) (i * sz+fo) nd
 | [],i,h,_,_,_,_=>by simp at h
 | y :: l,0,h,fo,nd,hf,he=>by
  simp at h
  subst h
  have hy:=henc y
  simp only[List.set_cons_zero,List.flatMap_cons,Nat.zero_mul,Nat.zero_add,he,setAt]
  rw[List.take_append_of_le_length (by omega),List.drop_append_of_le_length (by omega)]
  simp
 | y :: l,i+1,h,fo,nd,hf,he=>by
  have ih:=Kep henc (l:=l) (i:=i) (by simpa using h) hf he
  have hy:=henc y
  simp only[List.set_cons_succ,List.flatMap_cons,ih]
  have e:(i+1) * sz+fo=(enc y).length+(i * sz+fo):=by rw[hy,Nat.add_mul];omega
  unfold setAt
  rw[e,List.take_length_add_append,show(enc y).length+(i * sz+fo)+nd.length=(enc y).length+(i * sz+(fo+nd.length)) by omega,List.drop_length_add_append,Nat.add_assoc]
  simp
theorem Keq(hΓ:TOK P Γ){t tb:TypeId}{x y:Operand}{i:TI}{id off sz:Nat}{l:List α}{z z':α}{nd:List D}{new:List G}(j fo:Nat)(hz:l[j]?=some z)(hi:Γ t=some i)(hx:fr.ev x=some (.ptr id off))(hoff:off=j * sz+fo)(ho:hp[id]?=some (.row tb sz l.length (l.flatMap enc)))
  (henc:∀ y,(enc y).length=sz) (hy:fr.ev y=some g) (hg:cellsG g=some new) (hnd:toDs new=some nd) (he:enc z'=setAt (enc z) fo nd)
  (hsz:Nat.beq new.length i.size=true) (hfit:Nat.ble (fo+nd.length) sz=true) (hF:F≤hp.length)
  (k:EO P F N ops rest Q fr (hp.set id (.row tb sz (l.set j z').length ((l.set j z').flatMap enc)))):EO P F N ops (⟨none,.store t x y,ty,pos,after,none⟩ :: rest) Q fr hp:=by
 have hlt:=(gEs.1 hz).1
 have hf:=nBe hfit
 have hfl:=Kem henc l
 have hle:(j+1) * sz≤l.length * sz:=Nat.mul_le_mul_right _ hlt
 rw[Nat.add_mul] at hle
 refine Kcn hΓ hi hx ho hy hg hnd hsz (by rw[hfl,hoff];omega) hF ?_
 rw[Kep henc hz hf he,List.length_set,←hoff] at k
 exact k
theorem Ker(hΓ:TOK P Γ){t e:TypeId}{len:Nat}{i1 i2:TI}{parts:Array (Nat×Operand)}{pg:List (Nat×G)}{gs:List G}(l:List α)(h1:Γ t=some i1)(h1':i1.desc=.slice e)(h2:Γ e=some i2)
  (hz:(i2.zero.cells.toList.all (·.oneCell'))=true) (hz':Nat.blt 0 i2.zero.cells.size=true) (hlen:Nat.ble (len * i2.size) 16777216=true) (hlen':Nat.ble len 16777216=true) (hp':evParts fr parts.toList=some pg) (hf:fillG (fun i=>some (i * i2.size,i2.size)) (zerosG i2 len) pg=some gs) (hds:toDs gs=some (l.flatMap enc)) (hl:len=l.length)
  (hd:Nat.blt d N=true) (hF:F≤hp.length) (k:EO P F N ops rest Q ((d,.d (Sl enc l)) :: fr) hp):EO P F N ops (⟨some d,.buildSlice t len parts,ty,pos,after,none⟩ :: rest) Q fr hp:=by
 subst hl
 exact Kbk hΓ h1 h1' h2 hz hz' hlen hlen' hp' hf hds hd hF k
theorem Kes(hΓ:TOK P Γ){t e:TypeId}{len:Nat}{i1 i2:TI}{parts:Array (Nat×Operand)}{pg:List (Nat×G)}{gs:List G}{QF:Fr→Prop}(l:List α)(h1:Γ t=some i1)(h1':i1.desc=.slice e)(h2:Γ e=some i2)
  (hz:(i2.zero.cells.toList.all (·.oneCell'))=true) (hz':Nat.blt 0 i2.zero.cells.size=true) (hlen:Nat.ble (len * i2.size) 16777216=true) (hlen':Nat.ble len 16777216=true) (hp':evParts (fr.only (Oper.looksAt ops ⟨some d,.buildSlice t len parts,ty,pos,after,none⟩)) parts.toList=some pg) (hf:fillG (fun i=>some (i * i2.size,i2.size)) (zerosG i2 len) pg=some gs) (hds:toDs gs=some (l.flatMap enc)) (hl:len=l.length)
  (hd:Nat.blt d N=true) (k:GL P N hp ops QF rest ((d,.d (Sl enc l)) :: fr)):GL P N hp ops QF (⟨some d,.buildSlice t len parts,ty,pos,after,none⟩ :: rest) fr:=by
 subst hl
 exact gl_q hd (.inl rfl) (Kcc hΓ h1 h1' h2 hz hz' hlen hlen' hp' hf hds) k
theorem Ket(hΓ:TOK P Γ){t e:TypeId}{len:Nat}{i1 i2:TI}{parts:Array (Nat×Operand)}{pg:List (Nat×G)}{gs:List G}(l:List α)(h1:Γ t=some i1)(h1':i1.desc=.slice e)(h2:Γ e=some i2)
  (hz:(i2.zero.cells.toList.all (·.oneCell'))=true) (hz':Nat.blt 0 i2.zero.cells.size=true) (hlen:Nat.ble (len * i2.size) 16777216=true) (hlen':Nat.ble len 16777216=true) (hp':evParts fr parts.toList=some pg) (hf:fillG (fun i=>some (i * i2.size,i2.size)) (zerosG i2 len) pg=some gs) (hds:toDs gs=some (l.flatMap enc)) (hl:len=l.length)
  (hd:Nat.blt d N=true) (hF:F≤hp.length) (k:EO P F N ops rest Q ((d,.sl hp.length l.length) :: fr) (hp++[.row e i2.size l.length (l.flatMap enc)])):EO P F N ops (⟨some d,.buildSlice t len parts,ty,pos,after,none⟩ :: rest) Q fr hp:=by
 subst hl
 exact Kbl hΓ h1 h1' h2 hz hz' hlen hlen' hp' hf hds hd hF k
theorem Keu{t:TypeId}(te:TypeId)(sz:Nat)(hd:Nat.blt d N=true)(hF:F≤hp.length)(k:EO P F N ops rest Q ((d,.sl hp.length 0) :: fr) (hp++[.row te sz 0 []])) :
  EO P F N ops (⟨some d,.assign (.const (.slice none 0 0)),ty,pos,after,none⟩ :: rest) Q fr hp:=by
 refine eo_s hF (nblt.1 hd) (fun Z w M a hr=>?_) k
 have hr1:=hr.put (nblt.1 hd) (g:=.d (.v (.slice none 0 0))) (v:=.slice none 0 0) (.d (.v _ rfl))
 obtain⟨M',h1,h2,h3⟩:=Kqu (te:=te) (sz:=sz) d (by simp[Fr.get]) Z w M _ hr1
 obtain⟨v,hv,hvr⟩:=h1.fr d (.sl hp.length 0) (by simp[Fr.get])
 have hvv:v=.slice none 0 0:=by
  have hlt:d<a.tmps.size:=by rw[hr.size];exact nblt.1 hd
  have:(a.put (some d) (.slice none 0 0)).tmps[d]?=some (.slice none 0 0):=by simp[Act.put,hlt]
  rw[this] at hv
  cases hv;rfl
 subst hvv
 exact⟨.slice none 0 0,w,M',rfl,h1.heap,hvr,h2,h3⟩
end
end Go.Gk
namespace Go.Gk
def nodupB:List Nat→Bool
 | []=>true
 | x :: r=>!(r.any (Nat.beq x))&&nodupB r
theorem Kev:∀ {l:List Nat},nodupB l=true→l.Nodup
 | [],_=>List.nodup_nil
 | x :: r,h=>by
  simp only[nodupB,Bool.and_eq_true,Bool.not_eq_true'] at h
  refine List.nodup_cons.2 ⟨fun hm=>?_,Kev h.2⟩
  have:=List.any_eq_false.1 h.1 x hm
  rw[Nat.beq_refl] at this
  exact this rfl
def callObs(hp:List Ob)(ρ:List Nat)(hc':List Ob):List Ob:=upd hp ρ (hc'.map (Ob.ren (rn ρ hp.length)))++(hc'.drop ρ.length).map (Ob.ren (rn ρ hp.length))
def callIn(hp:List Ob)(ρ:List Nat):List (Option Ob):=ρ.map fun r=>hp[r]?
section
variable{P:Program}{Γ:TypeId→Option TI}{F N:Nat}{Q:GPost}{fr fr':Fr}{hp:List Ob}{ks:List Kt}
variable{α:Type}{enc:α→List D}{ops:Array Oper}{rest:List Oper}{g:G}
variable{d:Tmp}{op:Op}{ty:TypeId}{pos:String}{after:Array Edge}{gd:Option (Nat×Bool)}
theorem EC.callF{f:FuncId}{gc gs:List G}{hc hc':List Ob}{gr g':G}{hp2:List Ob}(ρ:List Nat)(hc0:EC P f gc hc fun g hp'=>g=gr∧hp'=hc')
  (hl:Nat.beq ρ.length hc.length=true) (hnd:nodupB ρ=true) (hobj:callIn hp ρ=(hc.map (Ob.ren (rn ρ hp.length))).map some) (hb:hc.all (Ob.bel hc.length)=true) (hgb:G.belAll hc.length gc=true)
  (hgs:gc.map (G.ren (rn ρ hp.length))=gs) (hg':gr.ren (rn ρ hp.length)=g') (hhp:callObs hp ρ hc'=hp2) (hsl:hc=[]∨hp.all Ob.sole=true:=by first | exact rfl | exact .inr rfl | exact .inl rfl | assumption):EC P f gs hp fun g hp'=>g=g'∧hp'=hp2:=by
 have hl':=nEq hl
 have:=EC.frame (hp:=hp) hc0 ρ hl' (Kev hnd) (fun i o r ho hr=>by
  have e:=congrArg (fun l=>l[i]?) hobj
  simp only[callIn,List.getElem?_map,hr,ho,Option.map_some] at e
  exact oSi e) (HB.mk hb) hsl hgb
 rw[hgs] at this
 refine this.mono ?_
 rintro g hp' ⟨g0,hc1,⟨rfl,rfl⟩,rfl,_,rfl⟩
 exact⟨hg',hhp⟩
variable{fop:Operand}{args:Array Operand}{ts:Array TypeId}{f:FuncId}{g1 g2 gs:List G}
theorem Kew{gc:List G}{hc hc':List Ob}{gr:G}(ρ:List Nat)(g':G)(hp2:List Ob)(hcl:Callable P f)(hc0:EC P f gc hc fun g hp'=>g=gr∧hp'=hc')(hd:Nat.blt d N=true)(hF:F≤hp.length)(hf:fr.ev fop=some (.fn (.func f) g1 g2))(ha:args.toList.mapM fr.ev=some gs)
  (hl:Nat.beq ρ.length hc.length=true) (hnd:nodupB ρ=true) (hobj:callIn hp ρ=(hc.map (Ob.ren (rn ρ hp.length))).map some) (hb:hc.all (Ob.bel hc.length)=true) (hgb:G.belAll hc.length gc=true)
  (hgs:gc.map (G.ren (rn ρ hp.length))=g1++gs++g2) (hg':gr.ren (rn ρ hp.length)=g') (hhp:callObs hp ρ hc'=hp2)
  (k:EO P F N ops rest Q ((d,g') :: fr) hp2) (hsl:hc=[]∨hp.all Ob.sole=true:=by first | exact rfl | exact .inr rfl | exact .inl rfl | assumption):EO P F N ops (⟨some d,.call ⟨.value fop,args,ts⟩,ty,pos,after,none⟩ :: rest) Q fr hp:=
 Kqh hd hF hf ha hcl (EC.callF ρ hc0 hl hnd hobj hb hgb hgs hg' hhp) (by rintro _ _ ⟨rfl,rfl⟩;exact k)
theorem Kex{r:G}(hcl:Callable P f)(hc:Pure P f gs r)(hd:Nat.blt d N=true)(hF:F≤hp.length)(hf:fr.ev fop=some (.fn (.func f) g1 g2)){gs':List G}(ha:args.toList.mapM fr.ev=some gs')(hgs:gs=g1++gs'++g2)(hb:G.belAll 0 gs=true)(hb':r.bel 0=true)
  (h:EO P F N ops rest Q ((d,r) :: fr) hp):EO P F N ops (⟨some d,.call ⟨.value fop,args,ts⟩,ty,pos,after,none⟩ :: rest) Q fr hp:=by
 subst hgs
 exact Kqi hd hF hf ha hcl hc hb hb' h
theorem Kez{r:G}{QF:Fr→Prop}{gs':List G}(hcl:Callable P f)(hc:Pure P f gs r)(hd:Nat.blt d N=true)(hf:(fr.only (Oper.looksAt ops ⟨some d,.call ⟨.value fop,args,ts⟩,ty,pos,after,none⟩)).ev fop=some (.fn (.func f) g1 g2))
  (ha:args.toList.mapM (fr.only (Oper.looksAt ops ⟨some d,.call ⟨.value fop,args,ts⟩,ty,pos,after,none⟩)).ev=some gs') (hgs:gs=g1++gs'++g2) (hb:G.belAll 0 gs=true) (hb':r.bel 0=true)
  (k:GL P N hp ops QF rest ((d,r) :: fr)):GL P N hp ops QF (⟨some d,.call ⟨.value fop,args,ts⟩,ty,pos,after,none⟩ :: rest) fr:=by
 subst hgs
 exact Kca hd hf ha hcl hc hb hb' k
theorem Kfa{r:G}{QF:Fr→Prop}{gs':List G}{j:Nat}{want:Bool}(hcl:Callable P f)(hc:Pure P f gs r)(hg:fr.guard ops j want=some true)(hd:Nat.blt d N=true)(hf:(fr.only (Oper.looksAt ops ⟨some d,.call ⟨.value fop,args,ts⟩,ty,pos,after,some (j,want)⟩)).ev fop=some (.fn (.func f) g1 g2))
  (ha:args.toList.mapM (fr.only (Oper.looksAt ops ⟨some d,.call ⟨.value fop,args,ts⟩,ty,pos,after,some (j,want)⟩)).ev=some gs') (hgs:gs=g1++gs'++g2) (hb:G.belAll 0 gs=true) (hb':r.bel 0=true)
  (k:GL P N hp ops QF rest ((d,r) :: fr)):GL P N hp ops QF (⟨some d,.call ⟨.value fop,args,ts⟩,ty,pos,after,some (j,want)⟩ :: rest) fr:=by
 subst hgs
 exact Kcb hg hd hf ha hcl hc hb hb' k
mutual
def G.plain:G→Bool
 | .d (.v _)=>true
 | .agg gs | .tup gs=>G.plainAll gs
 | _=>false
def G.plainAll:List G→Bool
 | []=>true
 | g :: r=>G.plain g&&G.plainAll r
end
theorem G.plainAll_spec:∀ {gs:List G},G.plainAll gs=true→∀ (j:Nat) (g:G),gs[j]?=some g→g.plain=true
 | [],_,j,g,h=>by simp at h
 | g0 :: r,hp,0,g,h=>by simp[G.plainAll] at hp;simp at h;exact h▸hp.1
 | g0 :: r,hp,j+1,g,h=>by simp[G.plainAll] at hp;exact G.plainAll_spec hp.2 j g (by simpa using h)
theorem VR.plain{w w':World}{O O':Ow}{M M':Mp}{g:G}{v:Value}(h:VR w O M g v)(hp:g.plain=true):VR w' O' M' g v:=by
 induction h with
 | d hd=>cases hd with
  | v _ h=>exact .d (.v _ h)
  | nil=>simp[G.plain] at hp
  | ro=>simp[G.plain] at hp
  | rf=>simp[G.plain] at hp
  | rt=>simp[G.plain] at hp
  | hd=>simp[G.plain] at hp
  | rv=>simp[G.plain] at hp
 | agg hl _ ih=>exact .agg hl fun j g v hg hv=>ih j g v hg hv (G.plainAll_spec hp j g hg)
 | tup hl _ ih=>exact .tup hl fun j g v hg hv=>ih j g v hg hv (G.plainAll_spec hp j g hg)
 | _=>simp[G.plain] at hp
def G.lend(hp:List Ob):G→G
 | .sl id n=>match hp[id]? with
  | some (.row _ _ _ ds)=>.d (.ro n ds)
  | _=>.sl id n
 | g=>g
def lentB(hp:List Ob)(M:Mp)(gs:List G)(b:Nat):Prop:=∃ (j id n:Nat) (c:Nat),gs[j]?=some (.sl id n)∧M.l[id]?=some (some (b,c))
theorem EC.lend{gs:List G}{r:G}(h:Pure P f (gs.map (G.lend hp)) r)(hbl:G.belAll 0 (gs.map (G.lend hp))=true)(hr:r.plain=true):EC P f gs hp fun g hp'=>g=r∧hp'=hp:=by
 intro Z w M vs hrel hsz hvs
 let Z0:Env:=⟨fun b=>(own hp M b∨Z.z b)∧¬ ((lentB hp M gs b)∧own hp M b),fun b=>ownZ Z hp M b∧¬ ((lentB hp M gs b)∧own hp M b),fun b h=>⟨h.1.imp id (Z.hv b),h.2⟩,fun w'=>Z.x w',fun w1 w2 hk hx=>Z.st w1 w2 (fun b hb=>hk b ⟨.inr hb,fun ⟨_,h⟩=>hrel.apart b h hb⟩) hx,Z.ax⟩
 have hO0:∀ b,ownZ Z0 [] ⟨[],M.h⟩ b→ownZ Z hp M b:=fun b hb=>by
  rcases hb with h1 | hb
  ·exact absurd h1 Kob
  exact hb.1
 have h0:RelH Z0 [] ⟨[],M.h⟩ w:=⟨rfl,fun i o m h=>by simp at h,fun b h=>absurd h Kob,fun b hb=>by
  rcases hb.1 with h | h
  ·exact hrel.block_lt h
  exact hrel.old b h,hrel.amb,fun i j oi oj b c c' h=>by simp at h,⟨fun x hx=>⟨(hrel.bags.tgs x hx).1,fun _=>Knz⟩,fun i j al al' ar ar' lt lt' h=>by simp at h,fun i al ar lt h=>by simp at h,hrel.bags.hds⟩⟩
 have hst:Stp w (ownZ Z hp M) w (ownZ Z0 [] ⟨[],M.h⟩):=.still (fun b _ hb=>hO0 b hb) rfl (fun g=>g)
 have key:∀ (j:Nat) (g:G) (v:Value),gs[j]?=some g→vs[j]?=some v→(g.lend hp).bel 0=true→VR w (ownZ Z0 [] ⟨[],M.h⟩) ⟨[],M.h⟩ (g.lend hp) v:=fun j g v hg hv hb=>by
  have h1:=hvs j g v hg hv
  by_cases hsl:∃ id n,g=.sl id n∧∃ t sz m ds,hp[id]?=some (.row t sz m ds)
  ·obtain⟨id,n,rfl,t,sz,m,ds,ho⟩:=hsl
   have e:(G.sl id n).lend hp=.d (.ro n ds):=by simp[G.lend,ho]
   rw[e]
   cases h1 with
   | slnil hM=>
    have:=hrel.obj id _ _ ho hM
    obtain⟨rfl,_⟩:=this
    exact .d .nil
   | sl hM hn hm=>
    rename_i b c
    obtain⟨_,cs,hblk,hcs,hnc,hcm,hdata⟩:=hrel.obj id _ _ ho hM
    have hown:own hp M b:=.inl ⟨id,_,c,ho,rfl,hM⟩
    have hcell:∀ j d,ds[j]?=some d→w.cell? ⟨b,0+j,none⟩=some (cs.getD j undef):=fun j d hd=>by
     obtain⟨u,e1,_⟩:=hdata j d hd
     rw[Nat.zero_add,cell_of_row w b j cs _ _ hblk]
     simp[e1]
    refine .d (.ro n ds b 0 c (fun j=>cs.getD j undef) (hrel.block_lt hown) ?_ hn hm hcell (fun j d hd=>?_))
    ·refine fun _ _ hbad=>absurd hbad ?_
     rintro(h1 | hb)
     ·exact Kob h1
     exact hb.2 ⟨⟨j,id,n,c,hg,hM⟩,hown⟩
    obtain⟨u,e1,e2⟩:=hdata j d hd
    simpa [e1] using e2.step hst
  have e:g.lend hp=g:=by
   cases g<;>try rfl
   rename_i id n
   simp only[G.lend]
   split
   ·rename_i t sz m ds ho
    exact absurd ⟨id,n,rfl,t,sz,m,ds,ho⟩ hsl
   rfl
  rw[e] at hb ⊢
  exact h1.move (k:=0) hst (fun i hi=>by omega) hb
 refine(h Z0 w ⟨[],M.h⟩ vs h0 (by simpa using hsz) (fun j g v hg hv=>?_)).mono ?_
 ·rw[gMp] at hg
  obtain⟨g0,hg0,rfl⟩:=oMs.1 hg
  exact key j g0 v hg0 hv (G.belAll_spec.1 hbl j _ (by rw[gMp,hg0];rfl))
 rintro e w' ⟨v,g,hp',M',rfl,⟨rfl,rfl⟩,h1,h2,h3,h4⟩
 have hkeep:∀ b,b<w.heap.size→w'.heap[b]?=w.heap[b]?:=fun b hb=>h3.keep b hb Kob
 have hs:Stp w (own hp M) w' (own hp M):=.mk' h3.size (fun b hb _=>hkeep b hb) (fun _ _ h=>h) h3.os h3.tape h3.output rfl (fun g=>g) fun x hx _=>hkeep _ (hrel.bags.tgs x hx).1
 refine⟨v,g,hp,M,rfl,⟨rfl,rfl⟩,⟨hrel.len,fun i o m ho hm=>?_,hrel.apart,fun b hb=>nLl (hrel.old b hb) h3.size,hrel.amb_stp hs,hrel.inj,hrel.bags.mono rfl h3.size (fun _ _ h=>h) (fun _ _ _ _ h=>h)⟩,h2.plain hr,hs,⟨Nat.le_of_eq hrel.len.symm,fun _ _=>rfl⟩⟩
 have:=hrel.obj i o m ho hm
 refine this.move (k:=M.l.length) (Koi Z hs) (fun _ _=>rfl) this.bel (fun b c e hl=>?_) fun _ _ _ _=>⟨rfl,fun x hx _=>hkeep _ (hrel.bags.tgs x hx).1⟩
 subst e
 exact hkeep b (hrel.block_ob ⟨i,o,c,ho,hl,hm⟩)
mutual
def G.shr(id:Nat)(ds:List D):G→G
 | .sl i n=>bif Nat.beq i id then .d (.ro n ds) else .sl i n
 | .agg gs=>.agg (G.shrAll id ds gs)
 | .tup gs=>.tup (G.shrAll id ds gs)
 | g=>g
def G.shrAll(id:Nat)(ds:List D):List G→List G
 | []=>[]
 | g :: r=>G.shr id ds g :: G.shrAll id ds r
end
theorem G.shrAll_get{id:Nat}{ds:List D}:∀ {gs:List G} {j:Nat} {g:G},(G.shrAll id ds gs)[j]?=some g→∃ g0,gs[j]?=some g0∧g=g0.shr id ds
 | [],j,g,h=>by simp[G.shrAll] at h
 | g0 :: r,0,g,h=>by simp[G.shrAll] at h;exact⟨g0,rfl,h.symm⟩
 | g0 :: r,j+1,g,h=>by simp[G.shrAll] at h;exact G.shrAll_get (gs:=r) h
theorem G.shrAll_length{id:Nat}{ds:List D}:∀ {gs:List G},(G.shrAll id ds gs).length=gs.length
 | []=>rfl
 | g :: r=>by simp[G.shrAll,G.shrAll_length (gs:=r)]
theorem VR.shr{Z:Env}{w:World}{M:Mp}{id te sz m:Nat}{ds:List D}{O':Ow}(hr:RelH Z hp M w)(ho:hp[id]?=some (.row te sz m ds))(hO:∀ b,O' b→ownZ Z hp M b)(hOh:O'.h=M.h)(hid:∀ b c,M.l[id]?=some (some (b,c))→¬ O' b){g:G}{v:Value}(h:VR w (ownZ Z hp M) M g v):VR w O' M (g.shr id ds) v:=by
 have hst:Stp w (ownZ Z hp M) w O':=.still (fun b _ hb=>hO b hb) hOh (fun _=>trivial)
 have st:∀ {g v},VR w (ownZ Z hp M) M g v→VR w O' M g v:=fun h=>h.step hst (fun _ _=>rfl)
 induction h with
 | sl hM hn hm=>
  rename_i i n b c
  simp only[G.shr]
  cases hb:Nat.beq i id with
  | false=>exact .sl hM hn hm
  | true=>
   have:=nEq hb
   subst this
   obtain⟨_,cs,hblk,hcs,hnc,hcm,hdata⟩:=hr.obj _ _ _ ho hM
   refine .d (.ro n ds b 0 c (fun j=>cs.getD j undef) (hr.block_ob ⟨i,_,c,ho,rfl,hM⟩) (fun _ _ hbad=>absurd hbad (hid b c hM)) hn hm (fun j d hd=>?_) (fun j d hd=>?_))
   ·obtain⟨u,e1,_⟩:=hdata j d hd
    rw[Nat.zero_add,cell_of_row w b j cs _ _ hblk]
    simp[e1]
   obtain⟨u,e1,e2⟩:=hdata j d hd
   simpa [e1] using e2.step hst
 | slnil hM=>
  rename_i i
  simp only[G.shr]
  cases hb:Nat.beq i id with
  | false=>exact .slnil hM
  | true=>
   have:=nEq hb
   subst this
   obtain⟨rfl,_⟩:=hr.obj _ _ _ ho hM
   exact .d .nil
 | agg hl _ ih=>
  refine .agg (by rw[G.shrAll_length];exact hl) fun j g v hg hv=>?_
  obtain⟨g0,hg0,rfl⟩:=G.shrAll_get hg
  exact ih j g0 v hg0 hv
 | tup hl _ ih=>
  refine .tup (by rw[G.shrAll_length];exact hl) fun j g v hg hv=>?_
  obtain⟨g0,hg0,rfl⟩:=G.shrAll_get hg
  exact ih j g0 v hg0 hv
 | slo h hn hm=>exact .slo h hn hm
 | slonil h=>exact .slonil h
 | d h=>exact .d (h.step hst)
 | ptr h=>exact .ptr h
 | rp vs hb hO' hc hv=>exact st (.rp vs hb hO' hc hv)
 | map h=>exact .map h
 | pnn h=>exact .pnn h
 | pns h=>exact .pns h
 | sa h ho=>exact .sa h ho
 | sv h hn hm=>exact .sv h hn hm
 | svnil h=>exact .svnil h
 | pv h=>exact .pv h
 | svo h ho hn=>exact .svo h ho hn
 | svonil h=>exact .svonil h
 | fn l1 l2 h1 h2 _ _=>exact st (.fn l1 l2 h1 h2)
 | junk v=>exact .junk v
def Fr.shrAt(id:Nat)(ds:List D)(fr:Fr):List Nat→Fr
 | []=>fr
 | t :: r=>match fr.get t with
  | some g=>(t,g.shr id ds) :: Fr.shrAt id ds fr r
  | none=>Fr.shrAt id ds fr r
def Ob.shr(id:Nat)(ds:List D):Ob→Ob
 | .box t gs=>.box t (G.shrAll id ds gs)
 | o=>o
theorem Kfb{id:Nat}{ds:List D}:∀ {L:List Nat} {t:Nat} {g:G},(Fr.shrAt id ds fr L).get t=some g→(∃ g0,fr.get t=some g0∧g=g0.shr id ds)∨fr.get t=some g
 | [],t,g,h=>.inr h
 | t0 :: L,t,g,h=>by
  simp only[Fr.shrAt] at h
  split at h
  ·rename_i g0 hg0
   simp only[Fr.get] at h
   cases hk:Nat.beq t0 t with
   | true=>
    have:=nEq hk
    subst this
    rw[hk] at h
    cases h
    exact .inl ⟨g0,hg0,rfl⟩
   | false=>rw[hk] at h;exact Kfb h
  exact Kfb h
theorem Kfc{te sz m:Nat}{ds:List D}(id:Nat)(L:List Nat)(ho:hp[id]?=some (.row te sz m ds))(hsl:hp.all Ob.sole=true):∀ Z w M a,Rel Z hp M w fr a N→
  ∃ M',Rel Z ((hp.map (Ob.shr id ds)).set id .dead) M' w (Fr.shrAt id ds fr L) a N∧Stp w (own hp M) w (own ((hp.map (Ob.shr id ds)).set id .dead) M')∧Agr hp.length M M':=by
 intro Z w M a hr
 have hid:id<hp.length:=(gEs.1 ho).1
 have lv:∀ o:Ob,(o.shr id ds).live=o.live:=fun o=>by cases o<;>rfl
 have hold:∀ i o,((hp.map (Ob.shr id ds)).set id .dead)[i]?=some o→o.live=true→i≠id∧∃ o0,hp[i]?=some o0∧o=o0.shr id ds∧o0.live=true:=fun i o h1 h2=>by
  by_cases hi:i=id
  ·subst hi;simp[hid] at h1;subst h1;cases h2
  ·rw[gSn (Ne.symm hi),gMp] at h1
   obtain⟨o0,h3,rfl⟩:=oMs.1 h1
   exact⟨hi,o0,h3,rfl,by rw[←lv];exact h2⟩
 have hob:∀ b,obOwn ((hp.map (Ob.shr id ds)).set id .dead) M b→obOwn hp M b:=by
  rintro b ⟨i,o,c,h1,h2,h3⟩
  obtain⟨_,o0,e1,_,e2⟩:=hold i o h1 h2
  exact⟨i,o0,c,e1,e2,h3⟩
 have hbg:∀ (i:Nat) (al:List Bool) (ar:List Ar) (lt:List (Nat×Nat)),((hp.map (Ob.shr id ds)).set id .dead)[i]?=some (.bag al ar lt)→hp[i]?=some (.bag al ar lt):=fun i al ar lt h=>Kog (fun o al ar lt h=>by cases o<;>first | exact h | cases h) i al ar lt (Koe rfl i al ar lt h)
 have hown:∀ b,own ((hp.map (Ob.shr id ds)).set id .dead) M b→own hp M b:=fun b h=>Kod h (hob b) (fun g=>g.of hbg) rfl
 have hst:Stp w (own hp M) w (own ((hp.map (Ob.shr id ds)).set id .dead) M):=.still (fun b _ h=>hown b h) rfl fun g=>g.of hbg
 have hO:∀ b,ownZ Z ((hp.map (Ob.shr id ds)).set id .dead) M b→ownZ Z hp M b:=fun b hb=>hb.imp (hown b) fun h=>h
 have hid':∀ b c,M.l[id]?=some (some (b,c))→¬ ownZ Z ((hp.map (Ob.shr id ds)).set id .dead) M b:=by
  rintro b c hM ((⟨i,o,c',h1,h2,h3⟩ | ⟨hg,x,hx,rfl⟩) | hz)
  ·obtain⟨hne,o0,e1,_,e2⟩:=hold i o h1 h2
   exact hne (hr.heap.inj i id o0 _ b c' c e1 ho e2 rfl h3 hM)
  ·exact hr.heap.sole hsl (hg.of hbg) hx ⟨id,_,c,ho,rfl,hM⟩
  ·exact hr.heap.apart b (.inl ⟨id,_,c,ho,rfl,hM⟩) (Z.hv b hz)
 have vs:∀ {g v},VR w (ownZ Z hp M) M g v→VR w (ownZ Z ((hp.map (Ob.shr id ds)).set id .dead) M) M (g.shr id ds) v:=fun h=>h.shr hr.heap ho hO rfl hid'
 have vk:∀ {g v},VR w (ownZ Z hp M) M g v→VR w (ownZ Z ((hp.map (Ob.shr id ds)).set id .dead) M) M g v:=fun h=>h.step (Koi Z hst) (fun _ _=>rfl)
 refine⟨M,⟨⟨by simp[hr.heap.len],fun i o m h1 h2=>?_,fun b hb hz=>hr.heap.apart b (hown b hb) hz,hr.heap.old,hr.heap.amb,fun i j oi oj b c c' hi hj li lj mi mj=>?_,hr.heap.bags.mono rfl (Nat.le_refl _) (fun b _=>hob b) hbg⟩,fun t' g h=>?_,hr.size,hr.defers⟩,hst,⟨Nat.le_of_eq hr.heap.len.symm,fun _ _=>rfl⟩⟩
 ·by_cases hi:i=id
  ·subst hi;simp[hid] at h1;subst h1;cases m<;>trivial
  ·rw[gSn (Ne.symm hi),gMp] at h1
   obtain⟨o0,h3,rfl⟩:=oMs.1 h1
   have hob:=hr.heap.obj i o0 m h3 h2
   cases o0 with
   | box tb gs=>
    match m,hob with
    | some (b,c),⟨cs,e1,e2,hc⟩=>
     refine⟨cs,e1,by rw[G.shrAll_length];exact e2,fun j g hg=>?_⟩
     obtain⟨g0,hg0,rfl⟩:=G.shrAll_get hg
     obtain⟨v,f1,f2,f3⟩:=hc j g0 hg0
     exact⟨v,f1,f2,vs f3⟩
   | _=>exact hob.move (k:=M.l.length) (Koi Z hst) (fun _ _=>rfl) hob.bel (fun _ _ _ _=>rfl) (fun _ _ _ _=>⟨rfl,fun _ _ _=>rfl⟩)
 ·obtain⟨_,o1,e1,_,e2⟩:=hold i oi hi li
  obtain⟨_,o2,e3,_,e4⟩:=hold j oj hj lj
  exact hr.heap.inj i j o1 o2 b c c' e1 e3 e2 e4 mi mj
 ·rcases Kfb h with⟨g0,h0,rfl⟩ | h0
  ·obtain⟨v,e1,e2⟩:=hr.fr t' g0 h0
   exact⟨v,e1,vs e2⟩
  ·obtain⟨v,e1,e2⟩:=hr.fr t' g h0
   exact⟨v,e1,vk e2⟩
theorem Kfd{l:List Oper}{te sz m:Nat}{ds:List D}(id:Nat)(L:List Nat)(fr2:Fr)(hp2:List Ob)(ho:hp[id]?=some (.row te sz m ds))(hfr:Fr.shrAt id ds fr L=fr2)(hhp:(hp.map (Ob.shr id ds)).set id .dead=hp2)(hF:F≤hp.length)
  (k:EO P F N ops l Q fr2 hp2) (hsl:hp.all Ob.sole=true:=by first | exact rfl | exact .inr rfl | exact .inl rfl | assumption):EO P F N ops l Q fr hp:=by
 subst hfr;subst hhp
 exact Kqt hF (Kfc id L ho hsl) k
theorem Kfe{c:Code}{fr':Fr}{hp':List Ob}(hF:F≤hp.length)(h:∀ Z w M a,Rel Z hp M w fr a N→∃ M',Rel Z hp' M' w fr' a N∧Stp w (own hp M) w (own hp' M')∧Agr hp.length M M')(k:EW P F N c Q fr' hp') :
  EW P F N c Q fr hp:=by
 intro Z w0 O0 M0 w M a hs ha hr
 obtain⟨M',h1,h2,h3⟩:=h Z w M a hr
 exact k Z w0 O0 M0 w M' a (hs.trans h2) (ha.trans h3 hF) h1
theorem Kff{c:Code}{te sz m:Nat}{ds:List D}(id:Nat)(L:List Nat)(fr2:Fr)(hp2:List Ob)(ho:hp[id]?=some (.row te sz m ds))(hfr:Fr.shrAt id ds fr L=fr2)(hhp:(hp.map (Ob.shr id ds)).set id .dead=hp2)(hF:F≤hp.length)
  (k:St.holds P F N Q (.code c ks) fr2 hp2) (hsl:hp.all Ob.sole=true:=by first | exact rfl | exact .inr rfl | exact .inl rfl | assumption):St.holds P F N Q (.code c ks) fr hp:=by
 subst hfr;subst hhp
 exact Kfe (Q:=stk P F N Q ks) hF (Kfc id L ho hsl) k
def Ob.clean(k:Nat):Ob→Ob
 | .box t gs=>.box t (gs.map fun g=>bif g.has k then .junk else g)
 | o=>o
theorem Kfg{l:List Oper}(hp2:List Ob)(h:hp=hp2)(k:EO P F N ops l Q fr hp2):EO P F N ops l Q fr hp:=by subst h;exact k
theorem Kfh(hΓ:TOK P Γ){t te:TypeId}{i1 i2:TI}{x y:Operand}{id n:Nat}{l m r:List α}(hz:apd l m=some r)(h1:Γ t=some i1)(h1':i1.desc=.slice te)(h2:Γ te=some i2)(hzc:Nat.beq i2.zero.cells.size i2.size=true)(hz0:Nat.blt 0 i2.size=true)
  (hx:fr.ev x=some (.sl id n)) (hn:n=l.length) (ho:hp[id]?=some (.row te i2.size l.length (l.flatMap enc))) (hy:fr.ev y=some (.d (Sl enc m))) (henc:∀ y,(enc y).length=i2.size) (hbytes:Nat.ble (4294967296 * i2.bytes) 140737488355328=true)
  (hno:(hp.all fun o=>!o.has id)=true) (hd:Nat.blt d N=true) (hFid:Nat.ble F id=true)
  (k:EO P F N ops rest Q ((d,.sl id r.length) :: fr.clean id) (hp.set id (.row te i2.size r.length (r.flatMap enc)))) :
  EO P F N ops (⟨some d,.call ⟨.builtin .append,#[x,y],#[t,t]⟩,ty,pos,after,none⟩ :: rest) Q fr hp:=by
 obtain⟨rfl,hle⟩:=Keb hz
 subst hn
 have hb:=nBe hbytes
 have hmul:(l.length+m.length) * i2.bytes≤4294967296 * i2.bytes:=Nat.mul_le_mul_right _ hle
 refine Kbe hΓ h1 h1' h2 hzc hz0 hx ho hy (Kem henc m) (by omega) (by simp only[maxLen];omega) hno hd hFid ?_
 rw[List.length_append,List.flatMap_append] at k
 exact k
def catZ(l m:Str):Option Str:=bif Nat.ble (l.length+m.length) 9223372036854775807 then some (l++m) else none
theorem Kfi{l m r:Str}(h:catZ l m=some r):r=l++m∧l.length+m.length≤9223372036854775807:=by
 unfold catZ at h
 cases hc:Nat.ble (l.length+m.length) 9223372036854775807 with
 | false=>rw[hc] at h;cases h
 | true=>rw[hc] at h;cases h;exact⟨rfl,nBe hc⟩
theorem Kfj{t t':TypeId}{x y:Operand}{l m r:List UInt8}(hz:catZ l m=some r)(hx:fr.ev x=some (S l))(hy:fr.ev y=some (S m)):OpP P N ⟨some d,.binOp .add t x y t',ty,pos,after,gd⟩ fr hp (S r):=by
 obtain⟨rfl,hn⟩:=Kfi hz
 intro Z w M a hr
 refine⟨_,?_,.d (.v _ rfl)⟩
 have e1:((⟨l.toArray⟩:ByteArray).size:Nat)=l.length:=by show l.toArray.size=_;simp
 have e2:((⟨m.toArray⟩:ByteArray).size:Nat)=m.length:=by show m.toArray.size=_;simp
 have hn':¬ (((⟨l.toArray⟩:ByteArray).size+(⟨m.toArray⟩:ByteArray).size:Nat):Int)>IntKind.i64.max:=by
  rw[e1,e2]
  have:IntKind.i64.max=9223372036854775807:=by decide
  rw[this];omega
 have e3:(⟨l.toArray⟩:ByteArray)++(⟨m.toArray⟩:ByteArray)=⟨(l++m).toArray⟩:=by
  apply ByteArray.ext
  simp[ByteArray.data_append]
 simp only[execOp,hr.ev_v hx,hr.ev_v hy,eqGuard,binOp,Op.stringOp]
 rw[if_neg hn',e3]
 rfl
def divZ(k:IntKind)(a b:Int):Option Int:=bif decide (b=0) then none else some (k.wrap (a.tdiv b))
def remZ(a b:Int):Option Int:=bif decide (b=0) then none else some (a.tmod b)
theorem Kfk{t t':TypeId}{x y:Operand}{k:IntKind}{m n r:Int}(hz:divZ k m n=some r)(hx:fr.ev x=some (.d (.v (.int k m))))(hy:fr.ev y=some (.d (.v (.int k n)))):OpP P N ⟨some d,.binOp .quo t x y t',ty,pos,after,gd⟩ fr hp (.d (.v (.int k r))):=by
 unfold divZ at hz
 by_cases h0:n=0
 ·simp[h0] at hz
 simp[h0] at hz;subst hz;exact Kcv hx hy h0
theorem Kfl{t t':TypeId}{x y:Operand}{k:IntKind}{m n r:Int}(hz:remZ m n=some r)(hx:fr.ev x=some (.d (.v (.int k m))))(hy:fr.ev y=some (.d (.v (.int k n)))):OpP P N ⟨some d,.binOp .rem t x y t',ty,pos,after,gd⟩ fr hp (.d (.v (.int k r))):=by
 unfold remZ at hz
 by_cases h0:n=0
 ·simp[h0] at hz
 simp[h0] at hz;subst hz;exact Kcw hx hy h0
theorem Kfm(hΓ:TOK P Γ){fn:Func}{gs:List G}{g:G}{e:Exit}(he:e=.normal∨e=.ret)(h:resAll Γ fr hp fn.results.toList=some gs)(hg:retG gs=g):(e=.normal∨e=.ret)∧Res P fn fr hp g:=⟨he,Kcf hΓ h hg.symm⟩
theorem Kfn(hΓ:TOK P Γ){fn:Func}{gs:List G}{g:G}{e:Exit}{n0:Nat}{hp2:List Ob}(ex:List Ob)(he:e=.normal∨e=.ret)(h:resAll Γ fr hp fn.results.toList=some gs)(hg:retG gs=g)(hhp:hp=hp2++ex)(hn:Nat.ble n0 hp2.length=true)(hb:ex=[]∨HB hp2.length hp2∧g.bel hp2.length=true) :
  Ret P fn n0 (fun g' hp'=>g'=g∧hp'=hp2) e fr hp:=
 ⟨he,hp2,ex,g,hhp,⟨rfl,rfl⟩,nBe hn,hb,Kcf hΓ h hg.symm⟩
end
end Go.Gk
namespace Go.Gk
abbrev eN(k:IntKind)(z:Int):List D:=[.v (.int k z)]
abbrev eB(b:Bool):List D:=[.v (.bool b)]
abbrev eS(s:Str):List D:=[.v (.string ⟨s.toArray⟩)]
abbrev eL{α:Type}(enc:α→List D)(l:List α):List D:=[Sl enc l]
def nrmK:List Kt→Option (Code×List Kt)
 | .seq y :: ks=>some (y,ks)
 | .block _ :: ks=>nrmK ks
 | _=>none
def rangeF{α σ:Type}(f:Nat→α→σ→Option σ):Nat→List α→σ→Option σ
 | _,[],s=>some s
 | i,x :: l,s=>bi (f i x s) fun s'=>rangeF f (i+1) l s'
def rangeI{σ ρ:Type}(f:Nat→σ→Option (LS σ ρ))(n:Int)(s:σ):Option (LS σ ρ):=rangeM (fun i (_:Unit) s=>f i s) 0 (List.replicate n.toNat ()) s
def rangeG{σ:Type}(f:Nat→σ→Option σ)(n:Int)(s:σ):Option σ:=rangeF (fun i (_:Unit) s=>f i s) 0 (List.replicate n.toNat ()) s
theorem Kfo{α σ:Type}{f:Nat→α→σ→Option σ}:∀ {l:List α} {i:Nat} {s r:σ},rangeF f i l s=some r→rangeM (ρ:=Empty) (fun i x s=>bi (f i x s) fun s'=>some (.go s')) i l s=some (.go r)
 | [],i,s,r,h=>by cases h;rfl
 | x :: l,i,s,r,h=>by
  obtain⟨s',h1,h2⟩:=Kdw h
  have:=Kfo h2
  simp only[rangeM,h1,bi_some]
  exact this
section
variable{P:Program}{Γ:TypeId→Option TI}{F N:Nat}{Q:GPost}{fr fr':Fr}{hp:List Ob}{ks ks2:List Kt}
theorem FB_get:∀ {fr:Fr} {k:Nat},(∀ t g,fr.get t=some g→g.bel k=true)→∀ {fr2:Fr},fr2.Sub fr→fr2.FB k
 | fr,k,h,[],_=>trivial
 | fr,k,h,(t,g) :: r,hs=>⟨h t g hs.1,FB_get h hs.2⟩
theorem Sub_trans{a b c:Fr}(h:a.Sub b)(k:b.Sub c):a.Sub c:=by
 induction a with
 | nil=>trivial
 | cons x r ih=>
  obtain⟨t,g⟩:=x
  exact⟨k.get t g h.1,ih h.2⟩
theorem MidP.trans{fr1 fr2:Fr}{ob1 ob2:List Ob}(h:MidP F fr2 ob2 fr1 ob1)(k:MidP F fr1 ob1 fr hp):MidP F fr2 ob2 fr hp:=by
 obtain⟨s1,ex1,rfl,c1⟩:=h
 obtain⟨s2,ex2,rfl,c2⟩:=k
 refine⟨Sub_trans s1 s2,ex1++ex2,by rw[List.append_assoc],?_⟩
 rcases c1 with rfl | c1
 ·rcases c2 with rfl | ⟨b1,b2,b3⟩
  ·exact .inl rfl
  rw[List.append_nil] at b1 b2 b3
  exact .inr ⟨b1,FB_get (fun t g h=>b2.get t g h) s1,b3⟩
 exact .inr c1
theorem Kfp{α σ:Type}{c:Code}(l:List α){f:Nat→α→σ→Option σ}{s0 r:σ}(h:rangeF f 0 l s0=some r)(st:Nat→σ→Fr)(ob:σ→List Ob)(hm:MidP F (st 0 s0) (ob s0) fr hp)
  (round:∀ i x s s',l[i]?=some x→i<l.length→f i x s=some s'→St.holds P F N Q (.code c (.mid (fun fr' hp'=>MidP F (st (i+1) s') (ob s') fr' hp') :: ks)) (st i s) (ob s))
  (done:St.holds P F N Q (.code c (.mid (fun _ _=>False) :: ks)) (st l.length r) (ob r)) :
  St.holds P F N Q (.code (.loop c) ks) fr hp:=by
 refine Kee l (Kfo h) st ob hm (fun i x s y hx hlt hy _=>?_) (fun s hs=>by cases hs;exact done)
 obtain⟨s',h1,h2⟩:=Kdw hy
 cases h2
 refine Koo (round i x s s' hx hlt h1) fun e fr' hp' h=>?_
 cases e with
 | normal=>exact⟨s',rfl,h⟩
 | _=>exact h
theorem Kfq{σ ρ:Type}{c:Code}{n:Int}{f:Nat→σ→Option (LS σ ρ)}{s0:σ}{r:LS σ ρ}(h:rangeI f n s0=some r)(st:Nat→σ→Fr)(ob:σ→List Ob)(hm:MidP F (st 0 s0) (ob s0) fr hp)
  (round:∀ (i:Nat) s y,(i:Int)<n→f i s=some y→(∀ r',y=.out r'→r=.out r')→St.holds P F N Q (.code c (.mid (fun fr' hp'=>∃ s',y=.go s'∧MidP F (st (i+1) s') (ob s') fr' hp') :: ks)) (st i s) (ob s))
  (done:∀ s,r=.go s→¬ ((n.toNat:Int)<n)→St.holds P F N Q (.code c (.mid (fun _ _=>False) :: ks)) (st n.toNat s) (ob s)) :
  St.holds P F N Q (.code (.loop c) ks) fr hp:=by
 refine Kee _ h st ob hm (fun i x s y hx hlt hy hr=>round i s y (by simp at hlt;omega) hy hr) (fun s hs=>?_)
 have:=done s hs (by omega)
 simpa using this
theorem Kfr{σ:Type}{c:Code}{n:Int}{f:Nat→σ→Option σ}{s0 r:σ}(h:rangeG f n s0=some r)(st:Nat→σ→Fr)(ob:σ→List Ob)(hm:MidP F (st 0 s0) (ob s0) fr hp)
  (round:∀ (i:Nat) s s',(i:Int)<n→f i s=some s'→St.holds P F N Q (.code c (.mid (fun fr' hp'=>MidP F (st (i+1) s') (ob s') fr' hp') :: ks)) (st i s) (ob s))
  (done:¬ ((n.toNat:Int)<n)→St.holds P F N Q (.code c (.mid (fun _ _=>False) :: ks)) (st n.toNat r) (ob r)) :
  St.holds P F N Q (.code (.loop c) ks) fr hp:=by
 refine Kfp _ h st ob hm (fun i x s s' hx hlt hy=>round i s s' (by simp at hlt;omega) hy) ?_
 have:=done (by omega)
 simpa using this
mutual
def G.lendD(hp:List Ob):G→G
 | .sl id n=>match hp[id]? with
  | some (.row _ _ _ ds)=>.d (.ro n ds)
  | _=>.sl id n
 | .agg gs=>.agg (G.lendDs hp gs)
 | .tup gs=>.tup (G.lendDs hp gs)
 | g=>g
def G.lendDs(hp:List Ob):List G→List G
 | []=>[]
 | g :: r=>G.lendD hp g :: G.lendDs hp r
end
theorem G.lendDs_get{hp:List Ob}:∀ {gs:List G} {j:Nat} {g:G},(G.lendDs hp gs)[j]?=some g→∃ g0,gs[j]?=some g0∧g=g0.lendD hp
 | [],j,g,h=>by simp[G.lendDs] at h
 | g0 :: r,0,g,h=>by simp[G.lendDs] at h;exact⟨g0,rfl,h.symm⟩
 | g0 :: r,j+1,g,h=>by simp[G.lendDs] at h;exact G.lendDs_get (gs:=r) h
theorem G.lendDs_length{hp:List Ob}:∀ {gs:List G},(G.lendDs hp gs).length=gs.length
 | []=>rfl
 | g :: r=>by simp[G.lendDs,G.lendDs_length (gs:=r)]
theorem VR.lendD{Z:Env}{w:World}{M:Mp}{hc:List Ob}(hr:RelH Z hc M w){g:G}{v:Value}(h:VR w (ownZ Z hc M) M g v)(hb:(g.lendD hc).bel 0=true)(hz:∀ b,own hc M b→¬ Z b):VR w (ownZ Z [] ⟨[],M.h⟩) ⟨[],M.h⟩ (g.lendD hc) v:=by
 have hO0:∀ b,ownZ Z [] ⟨[],M.h⟩ b→ownZ Z hc M b:=fun b hb=>by
  rcases hb with h1 | hb
  ·exact absurd h1 Kob
  exact .inr hb
 have hst:Stp w (ownZ Z hc M) w (ownZ Z [] ⟨[],M.h⟩):=.still (fun b _ hb=>hO0 b hb) rfl (fun g=>g)
 induction h with
 | sl hM hn hm=>
  rename_i id n b c
  simp only[G.lendD] at hb ⊢
  split at hb
  ·rename_i t sz m ds ho
   obtain⟨_,cs,hblk,hcs,hnc,hcm,hdata⟩:=hr.obj id _ _ ho hM
   have hown:own hc M b:=.inl ⟨id,_,c,ho,rfl,hM⟩
   refine .d (.ro n ds b 0 c (fun j=>cs.getD j undef) (hr.block_lt hown) ?_ hn hm (fun j d hd=>?_) (fun j d hd=>?_))
   ·refine fun _ _ hbad=>absurd hbad ?_
    rintro(h1 | hz')
    ·exact Kob h1
    exact hz b hown (Z.hv b hz')
   ·obtain⟨u,e1,_⟩:=hdata j d hd
    rw[Nat.zero_add,cell_of_row w b j cs _ _ hblk]
    simp[e1]
   obtain⟨u,e1,e2⟩:=hdata j d hd
   simpa [e1] using e2.step hst
  simp[G.bel,Nat.blt] at hb
 | slnil hM=>
  rename_i id
  simp only[G.lendD] at hb ⊢
  split at hb
  ·rename_i t sz m ds ho
   obtain⟨rfl,_⟩:=hr.obj id _ _ ho hM
   exact .d .nil
  simp[G.bel,Nat.blt] at hb
 | agg hl _ ih=>
  refine .agg (by rw[G.lendDs_length];exact hl) fun j g v hg hv=>?_
  obtain⟨g0,hg0,rfl⟩:=G.lendDs_get hg
  exact ih j g0 v hg0 hv (G.belAll_spec.1 hb j _ hg)
 | tup hl _ ih=>
  refine .tup (by rw[G.lendDs_length];exact hl) fun j g v hg hv=>?_
  obtain⟨g0,hg0,rfl⟩:=G.lendDs_get hg
  exact ih j g0 v hg0 hv (G.belAll_spec.1 hb j _ hg)
 | slo h _ _=>simp[G.lendD,G.bel,Nat.blt] at hb
 | slonil h=>simp[G.lendD,G.bel,Nat.blt] at hb
 | d h=>exact .d (h.step hst)
 | ptr h=>simp[G.lendD,G.bel,Nat.blt] at hb
 | map h=>simp[G.lendD,G.bel,Nat.blt] at hb
 | pnn h=>simp[G.lendD,G.bel,Nat.blt] at hb
 | pns h=>simp[G.lendD,G.bel,Nat.blt] at hb
 | sa h _=>simp[G.lendD,G.bel,Nat.blt] at hb
 | sv h _ _=>simp[G.lendD,G.bel,Nat.blt] at hb
 | svnil h=>simp[G.lendD,G.bel,Nat.blt] at hb
 | pv h=>simp[G.lendD,G.bel,Nat.blt] at hb
 | svo h _ _=>simp[G.lendD,G.bel,Nat.blt] at hb
 | svonil h=>simp[G.lendD,G.bel,Nat.blt] at hb
 | rp vs hb' hO hc hv=>exact(VR.rp (M:=M) vs hb' hO hc hv).move (k:=0) hst (fun i hi=>by omega) rfl
 | fn l1 l2 h1 h2 _ _=>exact(VR.fn l1 l2 h1 h2).move (k:=0) hst (fun i hi=>by omega) hb
 | junk v=>exact .junk v
theorem Pure.rows{f:FuncId}{gs:List G}{gr g':G}{hc:List Ob}(h:EC P f gs [] fun g hp'=>g=gr∧hp'=hc)(hg:gr.lendD hc=g')(hb:g'.bel 0=true):Pure P f gs g':=by
 subst hg
 intro Z w M vs hrel hsz hvs
 refine(h Z w M vs hrel hsz hvs).mono ?_
 rintro e w' ⟨v,g,hp',M',rfl,⟨rfl,rfl⟩,h1,h2,h3,h4⟩
 have hs:Stp w (own [] M) w' (own [] ⟨[],M'.h⟩):=⟨h3.size,fun b hb _=>h3.keep b hb Kob,fun b _ h=>absurd h Kob,h3.os,h3.tape,h3.output,h3.tg,h3.fz,fun _=>⟨Koa,(h3.nb Koa).2⟩⟩
 exact⟨v,_,[],⟨[],M'.h⟩,rfl,⟨rfl,rfl⟩,⟨rfl,fun i o m h=>by simp at h,fun b h=>absurd h Kob,h1.old,h1.amb,fun i j oi oj b c c' h=>by simp at h,⟨fun x hx=>⟨(h1.bags.tgs x hx).1,fun _=>Knz⟩,fun i j al al' ar ar' lt lt' h=>by simp at h,fun i al ar lt h=>by simp at h,h1.bags.hds⟩⟩,h2.lendD h1 hb h1.apart,hs,⟨Nat.le_refl _,fun i hi=>by simp at hi⟩⟩
end
end Go.Gk
namespace Go.Gk
theorem Kfs{α:Type}{l:List α}{k:Int}{x:α}(h:getZ l k=some x):l[k.toNat]?=some x:=by
 obtain⟨i,rfl,_,h⟩:=Kdy h
 simpa using h
end Go.Gk
namespace Go.Gk
def orI{A T:Type}(q:A ⊕ T)(f:A→Option T):Option T:=match q with
 | .inl a=>f a
 | .inr v=>some v
def goI{σ T:Type}(q:LS σ T)(f:σ→Option T):Option T:=match q with
 | .go s=>f s
 | .out v=>some v
def lsN{σ ρ:Type}(q:LS σ ρ)(f:σ→ρ):Option ρ:=match q with
 | .go s=>some (f s)
 | .out a=>some a
@[simp] theorem orI_inl {A T:Type} (a:A) (f:A→Option T):orI (.inl a) f=f a:=rfl
@[simp] theorem orI_inr {A T:Type} (v:T) (f:A→Option T):orI (.inr v) f=some v:=rfl
@[simp] theorem goI_go {σ T:Type} (s:σ) (f:σ→Option T):goI (.go s) f=f s:=rfl
@[simp] theorem goI_out {σ T:Type} (v:T) (f:σ→Option T):goI (.out v) f=some v:=rfl
@[simp] theorem lsN_go {σ ρ:Type} (s:σ) (f:σ→ρ):lsN (.go s) f=some (f s):=rfl
@[simp] theorem lsN_out {σ ρ:Type} (a:ρ) (f:σ→ρ):lsN (.out a) f=some a:=rfl
theorem Kft{c x:Bool}(h:c=true):x=(c&&x):=by subst h;rfl
theorem Kfu{c x:Bool}(h:c=false):false=(c&&x):=by subst h;rfl
theorem or_t{c x:Bool}(h:c=true):true=(c||x):=by subst h;rfl
theorem or_f{c x:Bool}(h:c=false):x=(c||x):=by subst h;rfl
section
variable{P:Program}{F N:Nat}{Q:GPost}{fr fr':Fr}{hp:List Ob}{ks ks2:List Kt}
theorem Kfv{y:Code}:∀ {ks:List Kt},nrmK ks=some (y,ks2)→∀ fr hp,stk P F N Q ks .normal fr hp=EW P F N y (stk P F N Q ks2) fr hp
 | [],h,_,_=>by cases h
 | .seq z :: ks,h,fr,hp=>by cases h;rfl
 | .block i :: ks,h,fr,hp=>Kfv (ks:=ks) h fr hp
 | .mid M :: ks,h,_,_=>by cases h
def Fr.Inc(a b:Fr):Prop:=∀ t g,a.get t=some g→b.get t=some g
theorem Kfw{c:Code}{Q:GPost}{a b:Fr}(hi:a.Inc b)(h:EW P F N c Q a hp):EW P F N c Q b hp:=
 fun Z w0 O0 M0 w M ac hs ha hr=>h Z w0 O0 M0 w M ac hs ha ⟨hr.heap,fun t g hg=>hr.fr t g (hi t g hg),hr.size,hr.defers⟩
theorem GL_inc{ops:Array Oper}{QF:Fr→Prop}(hQ:∀ a b:Fr,a.Inc b→QF a→QF b):∀ (l:List Oper) (a b:Fr),a.Inc b→GL P N hp ops QF l a→GL P N hp ops QF l b
 | [],a,b,hs,⟨c,e,hq⟩=>⟨b,rfl,hQ c b (fun t g h=>hs t g (by rw[←e];exact h)) hq⟩
 | o :: l,a,b,hs,⟨g,⟨hd,hy⟩,h⟩=>by
  have gd:∀ j want v,FF.guard a.get ops j want=some v→FF.guard b.get ops j want=some v:=fun j want v hb=>by
   unfold FF.guard at *
   cases ht:(ops[j]?).bind (·.dst) with
   | none=>rw[ht] at hb;simp at hb
   | some t=>
    rw[ht] at hb
    simp only[Option.bind_some] at hb ⊢
    cases hg:a.get t with
    | none=>rw[hg] at hb;simp at hb
    | some g0=>rw[hs t g0 hg];rw[hg] at hb;exact hb
  refine⟨g,⟨hd,?_⟩,?_⟩
  ·rcases hy with⟨j,want,h1,h2,h3⟩ | ⟨h1,fr,h2,h3⟩
   ·exact .inl ⟨j,want,h1,gd _ _ _ h2,h3⟩
   exact .inr ⟨h1.imp (fun h=>h) fun ⟨j,want,e1,e2⟩=>⟨j,want,e1,gd _ _ _ e2⟩,fr,fun t g' ht=>⟨(h2 t g' ht).1,hs _ _ (h2 t g' ht).2⟩,h3⟩
  cases hdst:o.dst with
  | none=>rw[hdst] at h;exact GL_inc hQ l a b hs h
  | some d=>
   rw[hdst] at h
   have e1:FF.put a.get (some d) g=Fr.get ((d,g) :: a):=by rw[Fr.get_cons];rfl
   have e2:FF.put b.get (some d) g=Fr.get ((d,g) :: b):=by rw[Fr.get_cons];rfl
   rw[e1] at h
   rw[e2]
   refine GL_inc hQ l _ _ (fun t g' ht=>?_) h
   rw[Fr.get_cons] at ht ⊢
   simp only at ht ⊢
   split
   ·rename_i e;rw[if_pos e] at ht;exact ht
   rename_i e;rw[if_neg e] at ht;exact hs t g' ht
theorem Kfx{y:Code}(n:Nat){full:Array Oper}{l:List Oper}(fr1:Fr)(hn:nrmK ks=some (y,ks2))(h1:St.holds P F N Q (.draw full (l.take n) (.mid (MidP F fr1 hp) :: ks)) fr hp)(h2:GL P N hp full (fun fr'=>stk P F N Q ks .normal fr' hp) (l.drop n) fr1) :
  GL P N hp full (fun fr'=>stk P F N Q ks .normal fr' hp) l fr:=by
 have:=Kdv (P:=P) (N:=N) (hp:=hp) (ops:=full) (QF:=fun fr'=>stk P F N Q ks .normal fr' hp) (QF1:=fun fr'=>MidP F fr1 hp fr' hp) (l1:=l.take n) (l2:=l.drop n) (fr:=fr) h1 (fun fr' hm=>by
  refine GL_inc (fun a b hi h=>?_) _ fr1 fr' (fun t g h=>hm.1.get t g h) h2
  rw[Kfv hn] at h ⊢
  exact Kfw hi h)
 rwa [List.take_append_drop] at this
end
end Go.Gk
namespace Go.Gk
def eqFs(e:TypeId→G→G→Option Bool)(Γ:TypeId→Option TI)(xs ys:List G):List Field→Option Bool
 | []=>some true
 | f :: fs=>if f.name = "_" then eqFs e Γ xs ys fs else
  match (Γ f.type).bind fun i=>(partG i xs f.offset).bind fun a=>(partG i ys f.offset).bind fun b=>e f.type a b,eqFs e Γ xs ys fs with
  | some a,some b=>some (a&&b)
  | _,_=>none
def eqG(Γ:TypeId→Option TI)(L:List Nat):Nat→TypeId→G→G→Option Bool
 | 0,_,_,_=>none
 | d+1,t,x,y=>match Γ t with
  | some ⟨.struct fs,_,_,_⟩=>match x,y with
   | .agg xs,.agg ys=>bif L.any (Nat.beq t) then eqFs (eqG Γ L d) Γ xs ys fs.toList else none
   | _,_=>none
  | some ⟨.int k,_,_,_⟩=>match x,y with
   | .d (.v (.int k1 a)),.d (.v (.int k2 b))=>if k1=k2 then some (a==b) else none
   | _,_=>none
  | some ⟨.bool,_,_,_⟩=>match x,y with
   | .d (.v (.bool a)),.d (.v (.bool b))=>some (a==b)
   | _,_=>none
  | some ⟨.string,_,_,_⟩=>match x,y with
   | .d (.v (.string ⟨⟨a⟩⟩)),.d (.v (.string ⟨⟨b⟩⟩))=>some (a==b)
   | _,_=>none
  | _=>none
section
variable{P:Program}{Γ:TypeId→Option TI}{F N:Nat}{Q:GPost}{fr fr':Fr}{hp:List Ob}{ks:List Kt}
variable{α:Type}{enc:α→List D}{ops:Array Oper}{rest:List Oper}{g:G}
variable{d:Tmp}{op:Op}{ty:TypeId}{pos:String}{after:Array Edge}{gd':Option (Nat×Bool)}
theorem Kfy(hΓ:TOK P Γ){L:List Nat}(hL:(L.all fun t=>!P.stoodInHeld t)=true){Z:Env}{M:Mp}{w:World}:∀ (n m:Nat) (t:TypeId) (x y:G) (v u:Value) (b:Bool),eqG Γ L n t x y=some b→n≤m→
  VR w (ownZ Z hp M) M x v→VR w (ownZ Z hp M) M y u→(Op.equalIn m t v u).run P w=.ok b w
 | 0,m,t,x,y,v,u,b,h,_,_,_=>by cases h
 | n+1,0,t,x,y,v,u,b,h,hm,_,_=>by omega
 | n+1,m+1,t,x,y,v,u,b,h,hm,hv,hu=>by
  simp only[eqG] at h
  split at h
  ·rename_i fs sz by_ z hi
   split at h
   ·rename_i xs ys
    cases hc:L.any (Nat.beq t) with
    | false=>rw[hc] at h;cases h
    | true=>
     rw[hc] at h
     simp only[cond_true] at h
     obtain⟨t',ht',hb⟩:=List.any_eq_true.1 hc
     have:=nEq hb
     subst this
     have hs:P.stoodInHeld t=false:=by simpa using lAe.1 hL t ht'
     obtain⟨hu',_⟩:=hΓ t _ hi
     have hfs:P.fieldsOf t=fs:=by unfold Program.fieldsOf;rw[hu']
     have hpr:=hv
     have hpr':=hu
     cases hv with
     | agg l1 r1=>
      cases hu with
      | agg l2 r2=>
       rename_i c1 c2
       rw[run_equalIn_agg w m t c1 c2 (by rw[hfs];exact hu') hs,hfs]
       generalize fs.toList=l at h
       clear hfs hu' hi
       induction l generalizing b with
       | nil=>cases h;simp[Op.eqFields]
       | cons f l ih=>
        simp only[eqFs] at h
        simp only[Op.eqFields]
        by_cases hn:f.name = "_"
        ·rw[if_pos hn] at h
         simp only[hn,ne_eq,not_true_eq_false,if_false]
         exact ih b h
        ·rw[if_neg hn] at h
         simp only[ne_eq,hn,not_false_eq_true,if_true]
         cases hti:Γ f.type with
         | none=>rw[hti] at h;simp at h
         | some i=>
          rw[hti] at h
          simp only[Option.bind_some] at h
          cases ha:partG i xs f.offset with
          | none=>rw[ha] at h;simp at h
          | some ga=>
           cases hb':partG i ys f.offset with
           | none=>rw[ha,hb'] at h;simp at h
           | some gb=>
            rw[ha,hb'] at h
            simp only[Option.bind_some] at h
            cases he:eqG Γ L n f.type ga gb with
            | none=>rw[he] at h;simp at h
            | some q=>
             cases hr:eqFs (eqG Γ L n) Γ xs ys l with
             | none=>rw[he,hr] at h;simp at h
             | some r=>
              rw[he,hr] at h
              cases h
              obtain⟨va,e1,e2⟩:=Kpr (P:=P) (hp:=hp) hΓ hti hpr ha
              obtain⟨vb,e3,e4⟩:=Kpr (P:=P) (hp:=hp) hΓ hti hpr' hb'
              have e5:=Kfy hΓ hL n m f.type ga gb va vb q he (by omega) e2 e4
              have e6:=ih r hr
              simp only[Sem.run_bind,e1,e3,e5,Result.andThen_ok]
              cases q
              ·simp
              ·simpa using e6
   ·cases h
  ·rename_i k _ _ _ hi
   obtain⟨hu',_⟩:=hΓ t _ hi
   split at h
   ·rename_i k1 a k2 b'
    split at h
    ·rename_i hk
     subst hk
     cases h
     rw[vr_v hv,vr_v hu]
     exact run_equalIn_int w m t k1 k a b' hu'
    ·cases h
   ·cases h
  ·rename_i hi
   obtain⟨hu',_⟩:=hΓ t _ hi
   split at h
   ·rename_i a b'
    cases h
    rw[vr_v hv,vr_v hu]
    exact run_equalIn_bool' w m t a b' hu'
   ·cases h
  ·rename_i hi
   obtain⟨hu',_⟩:=hΓ t _ hi
   split at h
   ·rename_i a b'
    cases h
    rw[vr_v hv,vr_v hu]
    have:=run_equalIn_string (P:=P) w m t ⟨⟨a⟩⟩ ⟨⟨b'⟩⟩ hu'
    rw[toList_mk',toList_mk'] at this
    exact this
   ·cases h
  ·cases h
theorem Kfz(hΓ:TOK P Γ)(L:List Nat){t t':TypeId}{x y:Operand}{xs ys:List G}{b:Bool}(hL:(L.all fun t=>!P.stoodInHeld t)=true)(hm:P.eqGuardType P.depth t=false)(hx:fr.ev x=some (.agg xs))(hy:fr.ev y=some (.agg ys))(he:eqG Γ L 9 t (.agg xs) (.agg ys)=some b) :
  OpP P N ⟨some d,.binOp .eql t x y t',ty,pos,after,gd'⟩ fr hp (B b):=fun Z w M a hr=>by
 have h1:=hr.ev hx
 have h2:=hr.ev hy
 have h3:=Kfy (P:=P) (hp:=hp) hΓ hL 9 10000 t _ _ _ _ b he (by decide) h1 h2
 generalize hvx:a.eval x=vx at *
 generalize hvy:a.eval y=vy at *
 cases h1 with
 | agg l1 r1=>
  cases h2 with
  | agg l2 r2=>
   refine⟨.bool b,?_,.d (.v _ rfl)⟩
   simp only[execOp,hvx,hvy,Sem.run_bind,run_eqGuard_agg w _ t _ _ _ _ hm,Result.andThen_ok,run_eql_struct,h3]
   rfl
theorem Kga(hΓ:TOK P Γ)(L:List Nat){t t':TypeId}{x y:Operand}{xs ys:List G}{b:Bool}(hL:(L.all fun t=>!P.stoodInHeld t)=true)(hm:P.eqGuardType P.depth t=false)(hx:fr.ev x=some (.agg xs))(hy:fr.ev y=some (.agg ys))(he:eqG Γ L 9 t (.agg xs) (.agg ys)=some b) :
  OpP P N ⟨some d,.binOp .neq t x y t',ty,pos,after,gd'⟩ fr hp (B !b):=fun Z w M a hr=>by
 have h1:=hr.ev hx
 have h2:=hr.ev hy
 have h3:=Kfy (P:=P) (hp:=hp) hΓ hL 9 10000 t _ _ _ _ b he (by decide) h1 h2
 generalize hvx:a.eval x=vx at *
 generalize hvy:a.eval y=vy at *
 cases h1 with
 | agg l1 r1=>
  cases h2 with
  | agg l2 r2=>
   refine⟨.bool !b,?_,.d (.v _ rfl)⟩
   simp only[execOp,hvx,hvy,Sem.run_bind,run_eqGuard_agg w _ t _ _ _ _ hm,Result.andThen_ok,run_neq_struct,h3]
   rfl
def shlZ(k:IntKind)(a:Int)(b:Int):Option Int:=match b with
 | .ofNat n=>some (shlV k a n)
 | _=>none
def shrZ(k:IntKind)(a:Int)(b:Int):Option Int:=match b with
 | .ofNat n=>some (shrV k a n)
 | _=>none
theorem Kgb{t t':TypeId}{x y:Operand}{k k':IntKind}{m n r:Int}(hz:shlZ k m n=some r)(hx:fr.ev x=some (.d (.v (.int k m))))(hy:fr.ev y=some (.d (.v (.int k' n)))):OpP P N ⟨some d,.binOp .shl t x y t',ty,pos,after,gd'⟩ fr hp (.d (.v (.int k r))):=by
 intro Z w M a hr
 refine⟨_,?_,.d (.v _ rfl)⟩
 have:binV .shl (.int k m) (.int k' n)=some (.int k r):=by
  simp only[binV,binI]
  unfold shlZ at hz
  split at hz<;>simp_all
 have:=Kpj (P:=P) (t:=t) (x:=x) (y:=y) this w
 simp only[execOp,hr.ev_v hx,hr.ev_v hy]
 rw[Sem.run_bind,this]
 rfl
theorem Kgc{t t':TypeId}{x y:Operand}{k k':IntKind}{m n r:Int}(hz:shrZ k m n=some r)(hx:fr.ev x=some (.d (.v (.int k m))))(hy:fr.ev y=some (.d (.v (.int k' n)))):OpP P N ⟨some d,.binOp .shr t x y t',ty,pos,after,gd'⟩ fr hp (.d (.v (.int k r))):=by
 intro Z w M a hr
 refine⟨_,?_,.d (.v _ rfl)⟩
 have:binV .shr (.int k m) (.int k' n)=some (.int k r):=by
  simp only[binV,binI]
  unfold shrZ at hz
  split at hz<;>simp_all
 have:=Kpj (P:=P) (t:=t) (x:=x) (y:=y) this w
 simp only[execOp,hr.ev_v hx,hr.ev_v hy]
 rw[Sem.run_bind,this]
 rfl
def strB:List Int→Option Str
 | []=>some []
 | z :: l=>bif decide (0≤z)&&decide (z<256) then(strB l).map fun r=>UInt8.ofNat z.toNat :: r else none
def bytesOf(s:Str):List Int:=s.map fun b=>(b.toNat:Int)
end
end Go.Gk
