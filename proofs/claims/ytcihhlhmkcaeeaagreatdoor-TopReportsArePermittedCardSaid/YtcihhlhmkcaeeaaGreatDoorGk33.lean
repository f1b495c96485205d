import Derived.Test.YtcihhlhmkcaeeaaGreatDoorGk28
import Derived.ArgAppend
set_option linter.all false
namespace Go.Gk
theorem Khw{A T:Type}{a:A}{f:A→Option T}{x:Option T}(h:orI (.inl a) f=x):f a=x:=h
theorem Khx{σ T:Type}{a:σ}{f:σ→Option T}{x:Option T}(h:goI (.go a) f=x):f a=x:=h
section
variable{P:Program}{Γ:TypeId→Option TI}{F N:Nat}{Q:GPost}{fr fr':Fr}{hp hp':List Ob}{ks ks2:List Kt}
theorem Khy{Z:Env}{w0 w:World}{O0:Ow}{M0 M:Mp}{e:Exit}{a:Act}{fr1:Fr}{ob1:List Ob}(hm:MidP F fr1 ob1 fr hp)(hq:Q e fr1 ob1)(hr:Rel Z hp M w fr a N)(hs:Stp w0 O0 w (own hp M))(ha:Agr F M0 M) :
  Post Z F N Q w0 O0 M0 e a w:=by
 obtain⟨h1,ex,rfl,he | ⟨h2,h3,h4⟩⟩:=hm
 ·subst he
  rw[List.append_nil] at hr hs
  exact⟨fr1,ob1,M,hq,hr.sub h1,hs,ha⟩
 ·exact⟨fr1,ob1,_,hq,(hr.sub h1).cut h2 h3,Kov hs,ha.cut h4 (by rw[hr.heap.len];simp)⟩
def Cv(F N:Nat)(M:Fr→List Ob→Prop)(fr:Fr)(hp:List Ob):Prop:=
 ∀ Z w M1 a,Rel Z hp M1 w fr a N→∃ fr' hp' M',M fr' hp'∧Rel Z hp' M' w fr' a N∧Stp w (own hp M1) w (own hp' M')∧∀ M0,Agr F M0 M1→Agr F M0 M'
theorem Khz{M:Fr→List Ob→Prop}(h:M fr hp):Cv F N M fr hp:=fun Z w M1 a hr=>⟨fr,hp,M1,h,hr,Stp.refl _ _,fun _ h=>h⟩
theorem Kia{M:Fr→List Ob→Prop}(hF:F≤hp.length)(h:∀ Z w M a,Rel Z hp M w fr a N→∃ M',Rel Z hp' M' w fr' a N∧Stp w (own hp M) w (own hp' M')∧Agr hp.length M M')(k:Cv F N M fr' hp'):Cv F N M fr hp:=by
 intro Z w M1 a hr
 obtain⟨M2,h1,h2,h3⟩:=h Z w M1 a hr
 obtain⟨fr3,hp3,M3,k0,k1,k2,k3⟩:=k Z w M2 a h1
 exact⟨fr3,hp3,M3,k0,k1,h2.trans k2,fun M0 h=>k3 M0 (h.trans h3 hF)⟩
theorem Kib{M:Fr→List Ob→Prop}(src dst:Nat){o:Ob}(hp2:List Ob)(ho:hp[src]?=some o)(hol:o.live=true)(hdst:hp[dst]?=some .dead)(hno:(hp.all fun o=>!o.has dst)=true)(hF:Nat.ble F dst=true)(hhp:mvObs src dst o hp=hp2)(k:Cv F N M (fr.mv src dst) hp2):Cv F N M fr hp:=by
 subst hhp
 intro Z w M1 a hr
 obtain⟨M2,h1,h2,h3,h4⟩:=Kgu src dst ho hol hdst hno Z w M1 a hr
 obtain⟨fr3,hp3,M3,k0,k1,k2,k3⟩:=k Z w M2 a h1
 refine⟨fr3,hp3,M3,k0,k1,h2.trans k2,fun M0 ha=>k3 M0 ⟨by rw[h3];exact ha.le,fun i hi=>?_⟩⟩
 rw[h4 i (by have:=nBe hF;omega)]
 exact ha.eq i hi
theorem Kic{A:Type}{c:Code}{R:A→Prop}(fr1:A→Fr)(ob1:A→List Ob)(h1:St.holds P F N Q (.code c (.mid (fun fr' hp'=>∃ a,R a∧MidP F (fr1 a) (ob1 a) fr' hp') :: ks)) fr hp)
  (h2:∀ a,R a→St.holds P F N Q (.fin .normal ks) (fr1 a) (ob1 a)):St.holds P F N Q (.code c ks) fr hp:=by
 intro Z w0 O0 M0 w M a hs ha hr
 refine wp_mono (h1 Z w0 O0 M0 w M a hs ha hr) ?_
 rintro e a' w' ⟨fr',hp',M',q,r1,r2,r3⟩
 cases e with
 | normal=>
  obtain⟨x,hR,hm⟩:=q
  exact Khy hm (h2 x hR) r1 r2 r3
 | _=>exact⟨fr',hp',M',q,r1,r2,r3⟩
theorem Kid{c:Code}(fr1:Fr)(ob1:List Ob)(h1:St.holds P F N Q (.code c (.mid (MidP F fr1 ob1) :: ks)) fr hp)(h2:St.holds P F N Q (.fin .normal ks) fr1 ob1):St.holds P F N Q (.code c ks) fr hp:=by
 intro Z w0 O0 M0 w M a hs ha hr
 refine wp_mono (h1 Z w0 O0 M0 w M a hs ha hr) ?_
 rintro e a' w' ⟨fr',hp',M',q,r1,r2,r3⟩
 cases e with
 | normal=>exact Khy q h2 r1 r2 r3
 | _=>exact⟨fr',hp',M',q,r1,r2,r3⟩
theorem Kie{c:Code}(fr1:Fr)(ob1:List Ob)(h1:St.holds P F N Q (.code c (.mid (Cv F N (MidP F fr1 ob1)) :: ks)) fr hp)(h2:St.holds P F N Q (.fin .normal ks) fr1 ob1):St.holds P F N Q (.code c ks) fr hp:=by
 intro Z w0 O0 M0 w M a hs ha hr
 refine wp_mono (h1 Z w0 O0 M0 w M a hs ha hr) ?_
 rintro e a' w' ⟨fr',hp',M',q,r1,r2,r3⟩
 cases e with
 | normal=>
  obtain⟨fr3,hp3,M3,hm,k1,k2,k3⟩:=q Z w' M' a' r1
  exact Khy hm h2 k1 (r2.trans k2) (k3 _ r3)
 | _=>exact⟨fr',hp',M',q,r1,r2,r3⟩
theorem Kif{c:Code}{A T:Type}{q:A ⊕ T}(fr1:A→Fr)(ob1:A→List Ob)(h1:St.holds P F N Q (.code c (.mid (fun fr' hp'=>∃ a,q=.inl a∧MidP F (fr1 a) (ob1 a) fr' hp') :: ks)) fr hp)
  (h2:∀ a,q=.inl a→St.holds P F N Q (.fin .normal ks) (fr1 a) (ob1 a)):St.holds P F N Q (.code c ks) fr hp:=Kic fr1 ob1 h1 h2
end
section
variable{P:Program}{Γ:TypeId→Option TI}{F N:Nat}{Q:GPost}{fr fr':Fr}{hp hp' hpL:List Ob}{ks:List Kt}{ll hl bl:List Nat}
variable{ops:Array Oper}{rest:List Oper}{g:G}{QF:Fr→List Ob→Prop}
variable{d:Tmp}{op:Op}{ty:TypeId}{pos:String}{after:Array Edge}{k:Nat}{j:Nat}{want:Bool}
variable{fop:Operand}{args:Array Operand}{ts:Array TypeId}{f:FuncId}{g1 g2 gs:List G}
theorem Kig{r:G}{gs':List G}(hg:fr.guard ops j want=some true)(hcl:Callable P f)(hc:Pure P f gs r)(hd:Nat.blt d N=true)(hf:(fr.only (Oper.looksAt ops ⟨some d,.call ⟨.value fop,args,ts⟩,ty,pos,after,some (j,want)⟩)).ev fop=some (.fn (.func f) g1 g2))
  (ha:args.toList.mapM (fr.only (Oper.looksAt ops ⟨some d,.call ⟨.value fop,args,ts⟩,ty,pos,after,some (j,want)⟩)).ev=some gs') (hgs:gs=g1++gs'++g2) (hb:G.belAll 0 gs=true) (hb':r.bel 0=true)
  (kk:GE P N hpL ll hl bl ops QF (k+1) rest ((d,r) :: fr) hp) (hnn:noNew bl k=true:=by rfl):GE P N hpL ll hl bl ops QF k (⟨some d,.call ⟨.value fop,args,ts⟩,ty,pos,after,some (j,want)⟩ :: rest) fr hp:=by
 subst hgs
 exact ge_q hd (.inr ⟨j,want,rfl,hg⟩) (fun hp _=>Khf (Kbz hf ha hcl hc hb hb')) kk hnn
theorem Kih{α:Type}{enc:α→List D}(hΓ:TOK P Γ){t e:TypeId}{len:Nat}{i1 i2:TI}{parts:Array (Nat×Operand)}{pg:List (Nat×G)}{gs:List G}(l:List α)(hg:fr.guard ops j want=some true)(h1:Γ t=some i1)(h1':i1.desc=.slice e)(h2:Γ e=some i2)
  (hz:(i2.zero.cells.toList.all (·.oneCell'))=true) (hz':Nat.blt 0 i2.zero.cells.size=true) (hlen:Nat.ble (len * i2.size) 16777216=true) (hlen':Nat.ble len 16777216=true) (hp':evParts (fr.only (Oper.looksAt ops ⟨some d,.buildSlice t len parts,ty,pos,after,some (j,want)⟩)) parts.toList=some pg) (hf:fillG (fun i=>some (i * i2.size,i2.size)) (zerosG i2 len) pg=some gs) (hds:toDs gs=some (l.flatMap enc)) (hlq:len=l.length)
  (hd:Nat.blt d N=true) (kk:GE P N hpL ll hl bl ops QF (k+1) rest ((d,.d (Sl enc l)) :: fr) hp) (hnn:noNew bl k=true:=by rfl):GE P N hpL ll hl bl ops QF k (⟨some d,.buildSlice t len parts,ty,pos,after,some (j,want)⟩ :: rest) fr hp:=by
 subst hlq
 exact ge_q hd (.inr ⟨j,want,rfl,hg⟩) (fun hp _=>Khf (Kcc hΓ h1 h1' h2 hz hz' hlen hlen' hp' hf hds)) kk hnn
end
end Go.Gk
namespace Go.Gk
section
variable{P:Program}{Γ:TypeId→Option TI}{F N:Nat}{Q:GPost}{fr fr':Fr}{hp hp':List Ob}{ks:List Kt}
variable{α:Type}{enc:α→List D}{ops:Array Oper}{rest:List Oper}{g:G}
variable{d:Tmp}{op:Op}{ty:TypeId}{pos:String}{after:Array Edge}{gd':Option (Nat×Bool)}
theorem Kii(hΓ:TOK P Γ){t e:TypeId}{i1 i2:TI}{x:Operand}{lo:Option Operand}{n id k:Nat}{l r:List α}(hz:subZ l (k:Int) (l.length:Int)=some r)(h1:Γ t=some i1)(h1':i1.desc=.slice e)(h2:Γ e=some i2)(hx:fr.ev x=some (.sl id n))(hn:n=l.length)(hlo:fr.bound lo 0=some (k:Int)) :
  OpP P N ⟨some d,.slice t x lo none none,ty,pos,after,gd'⟩ fr hp (.slo id i2.size k r.length):=fun Z w M a hr=>by
 obtain⟨u1,_⟩:=hΓ t _ h1
 rw[h1'] at u1
 have hs:=run_size' (P:=P) (w:=w) hΓ h2
 obtain⟨a',b',ea,eb,e1,e2,rfl⟩:=Kea hz
 obtain rfl:a'=k:=by omega
 obtain rfl:b'=l.length:=by omega
 have hrl:((l.take l.length).drop a').length=l.length - a':=by simp
 rw[hrl]
 have hvx:=hr.ev hx
 simp only[execOp,Option.map_none]
 generalize a.eval x=vx at hvx
 cases hvx with
 | slnil hM=>
  have h0:l.length=0:=hn.symm
  have ha0:a'=0:=by omega
  subst ha0
  have hb:(Instr.sliceBounds true 0 0 (lo.map a.eval) none none).run P w=.ok (0,0,0) w:=Kcg (P:=P) (w:=w) hr (b:=true) (l:=0) (len:=0) (cap:=0) (hi:=none) hlo rfl (Nat.le_refl _) (Nat.le_refl _)
  rw[h0]
  exact⟨.slice none 0 0,by simp[Instr.sliceAt,Instr.slice,run_underlying u1,hb,hs],.slonil hM⟩
 | sl hM hnc hm=>
  rename_i b c
  subst hn
  have hb:(Instr.sliceBounds true l.length c (lo.map a.eval) none none).run P w=.ok (a',l.length,c) w:=Kcg (P:=P) (w:=w) hr (b:=true) (l:=a') (len:=l.length) (cap:=c) (hi:=none) hlo rfl e1 hnc
  refine⟨.slice (some ⟨b,if c=a' then 0 else a' * i2.size,none⟩) (l.length - a') (c - a'),?_,.slo hM (by omega) hm⟩
  by_cases hc:c=a'
  ·subst hc;simp[Instr.sliceAt,Instr.slice,run_underlying u1,hb,hs]
  ·simp[Instr.sliceAt,Instr.slice,run_underlying u1,hb,hs,hc,Addr.add_lit];try omega
end
end Go.Gk
namespace Go.Gk
theorem Kij{z:Array Value}(h:z.toList.all (·.oneCell')=true)(n:Nat):∀ v∈(Builtin.zeroCells z n).toList,v.oneCell'=true:=by
 intro v hv
 simp only[Builtin.zeroCells,Array.toList_map,List.mem_map] at hv
 obtain⟨i,hi,rfl⟩:=hv
 have hi':i<n * z.size:=by simpa using hi
 have hpos:0<z.size:=by
  rcases Nat.eq_zero_or_pos z.size with h0 | h0
  ·rw[h0] at hi';omega
  exact h0
 have hlt:i % z.size<z.size:=Nat.mod_lt _ hpos
 rw[getElem!_pos z (i % z.size) hlt]
 exact lAe.1 h _ (by simp)
section
variable{P:Program}{Γ:TypeId→Option TI}{F N:Nat}{Q:GPost}{fr fr':Fr}{hp hp':List Ob}{ks:List Kt}
variable{α:Type}{enc:α→List D}{ops:Array Oper}{rest:List Oper}{g:G}
variable{d:Tmp}{op:Op}{ty:TypeId}{pos:String}{after:Array Edge}{gd':Option (Nat×Bool)}
theorem Kik(hF:F≤hp.length)(ho:OpS P N ⟨none,op,ty,pos,after,none⟩ fr hp g hp')(h:EO P F N ops rest Q fr hp') :
  EO P F N ops (⟨none,op,ty,pos,after,none⟩ :: rest) Q fr hp:=by
 intro Z w0 O0 M0 w M a hs ha hr
 refine wpList_plain rfl fun K hK=>?_
 obtain⟨v,w',M',hrun,h1,h2,h3,h4⟩:=ho Z w M a hr
 unfold Oper.wp
 rw[hrun,Oper.upon_value]
 exact hK _ _ (h Z w0 O0 M0 w' M' _ (hs.trans h3) (ha.trans h4 hF) (hr.later h1 h3 h4))
theorem Kil(hΓ:TOK P Γ){t te:TypeId}{i1 i2:TI}{x:Operand}{id o n:Nat}{ds:List D}(h1:Γ t=some i1)(h1':i1.desc=.slice te)(h2:Γ te=some i2)(hz:Nat.beq i2.zero.cells.size i2.size=true)(hz1:(i2.zero.cells.toList.all (·.oneCell'))=true)
  (hx:fr.ev x=some (.slo id i2.size o n)) (ho:hp[id]?=some (.row te i2.size (o+n) ds)) :
  OpS P N ⟨none,.call ⟨.builtin .clear,#[x],#[t]⟩,ty,pos,after,gd'⟩ fr hp (.tup []) (hp.set id (.row te i2.size o (ds.take (o * i2.size)))):=by
 intro Z w M a hr
 obtain⟨u1,_⟩:=hΓ t _ h1
 rw[h1'] at u1
 obtain⟨_,inf,e1,e2,e3,e4⟩:=hΓ te _ h2
 have hid:id<hp.length:=(gEs.1 ho).1
 have hidM:id<M.l.length:=by rw[hr.heap.len];exact hid
 have hzs:i2.zero.cells.size=i2.size:=nEq hz
 have hvx:=hr.ev hx
 have hag:Agr hp.length M M:=⟨Nat.le_of_eq hr.heap.len.symm,fun _ _=>rfl⟩
 have htup:∀ (w':World) (O:Ow),VR w' O M (.tup []) (.tuple #[]):=fun w' O=>.tup rfl fun j g v h=>by simp at h
 generalize hvv:a.eval x=vx at hvx
 cases hvx with
 | slonil hM=>
  have hob:=hr.heap.obj id _ _ ho hM
  obtain⟨hd,_⟩:=hob
  subst hd
  have hset:hp.set id (.row te i2.size 0 (([]:List D).take (0 * i2.size)))=hp:=by
   simp only[List.take_nil]
   apply List.ext_getElem?
   intro j
   by_cases hj:j=id
   ·subst hj;rw[gSs hid,ho]
   ·rw[gSn (Ne.symm hj)]
  rw[hset]
  exact⟨.tuple #[],w,M,by simp[execOp,resolve,invoke,builtin,hvv,Builtin.clear_,run_underlying u1],hr.heap,htup _ _,.refl _ _,hag⟩
 | slo hM hn hcm=>
  rename_i b c
  have hob:=hr.heap.obj id _ _ ho hM
  obtain⟨hdl,cs,hbk,hcs,hnc,hcm',hcr⟩:=hob
  have hvl:(Builtin.zeroCells i2.zero.cells n).toList.length=n * i2.size:=by rw[Array.length_toList,size_zeroCells,hzs]
  have hmul:(o+n) * i2.size≤c * i2.size:=Nat.mul_le_mul_right _ hnc
  rw[Nat.add_mul] at hmul
  have hdl':(ds.take (o * i2.size)).length=o * i2.size:=by rw[List.length_take,hdl,Nat.add_mul];omega
  obtain⟨w',r1,r2,r3⟩:=Kqr (P:=P) (o':=.row te i2.size o (ds.take (o * i2.size))) hr.heap ho rfl hM hbk (off:=o * i2.size) (vs:=(Builtin.zeroCells i2.zero.cells n).toList) (by rw[hvl,hcs];omega) (Kij hz1 n)
   (fun w' hst hh=>⟨hdl',_,hh,by rw[List.size_toArray,Kqq (by rw[hvl,Array.length_toList,hcs];omega),Array.length_toList,hcs],by omega,hcm',fun j dd hj=>by
    have hlt:j<o * i2.size:=by rw[←hdl'];exact(gEs.1 hj).1
    rw[List.getElem?_take_of_lt hlt] at hj
    obtain⟨v,f1,f2⟩:=hcr j dd hj
    refine⟨v,?_,f2.step hst⟩
    rw[List.getElem?_toArray,Kqp (by rw[hvl,Array.length_toList,hcs];omega),if_neg (by omega)]
    simpa using f1⟩) rfl
  refine⟨.tuple #[],w',M,?_,r2,htup _ _,r3,hag⟩
  have hzv:(zeroValue te).run P w=.ok i2.zero w:=by simp[zeroValue,typeInfo,e1,e4]
  by_cases hn0:n=0
  ·subst hn0
   have:w'=w:=by
    have e:(Builtin.zeroCells i2.zero.cells 0).toList=[]:=List.eq_nil_of_length_eq_zero (by rw[hvl];simp)
    rw[e] at r1
    simp[storeCells] at r1
    exact r1.symm
   subst this
   simp[execOp,resolve,invoke,builtin,hvv,Builtin.clear_,run_underlying u1]
  ·obtain⟨m,rfl⟩:∃ m,n=m+1:=⟨n - 1,by omega⟩
   have hco:¬ c=o:=by omega
   simp[execOp,resolve,invoke,builtin,hvv,Builtin.clear_,run_underlying u1,hzv,hco,r1]
theorem Kim(hΓ:TOK P Γ){t te:TypeId}{i1 i2:TI}{x:Operand}{id k sz n:Nat}{l r:List α}{a:Int}(hz:subZ l a (l.length:Int)=some r)(h1:Γ t=some i1)(h1':i1.desc=.slice te)(h2:Γ te=some i2)(hzc:Nat.beq i2.zero.cells.size i2.size=true)(hz1:(i2.zero.cells.toList.all (·.oneCell'))=true)
  (hx:fr.ev x=some (.slo id sz k n)) (hk:k=a.toNat) (hsz:sz=i2.size) (hn:n=r.length) (ho:hp[id]?=some (.row te i2.size l.length (l.flatMap enc))) (henc:∀ y,(enc y).length=i2.size) :
  OpS P N ⟨none,.call ⟨.builtin .clear,#[x],#[t]⟩,ty,pos,after,gd'⟩ fr hp (.tup []) (hp.set id (.row te i2.size (l.take a.toNat).length ((l.take a.toNat).flatMap enc))):=by
 subst hsz;subst hn;subst hk
 obtain⟨a',b',ea,eb,e1,e2,rfl⟩:=Kea hz
 subst ea
 obtain rfl:b'=l.length:=by omega
 rw[Int.toNat_natCast] at hx ⊢
 have hrl:((l.take l.length).drop a').length=l.length - a':=by simp
 rw[hrl] at hx
 have:=Kil (P:=P) (N:=N) (ty:=ty) (pos:=pos) (after:=after) (gd':=gd') hΓ h1 h1' h2 hzc hz1 hx (by rw[ho];congr 2;omega)
 rw[Kek henc,show(l.take a').length=a' by simp;omega]
 exact this
theorem Kin(hΓ:TOK P Γ){t e:TypeId}{i1 i2:TI}{x:Operand}{lo:Option Operand}{n id:Nat}{a:Int}{l r:List α}(hz:subZ l a (l.length:Int)=some r)(h1:Γ t=some i1)(h1':i1.desc=.slice e)(h2:Γ e=some i2)(hx:fr.ev x=some (.sl id n))(hn:n=l.length)(hlo:fr.bound lo 0=some a) :
  OpP P N ⟨some d,.slice t x lo none none,ty,pos,after,gd'⟩ fr hp (.slo id i2.size a.toNat r.length):=by
 obtain⟨a',b',ea,eb,e1,e2,e3⟩:=Kea hz
 subst ea
 rw[Int.toNat_natCast]
 exact Kii hΓ hz h1 h1' h2 hx hn hlo
theorem Kio(hΓ:TOK P Γ){t e:TypeId}{i1 i2:TI}{x:Operand}{lo hi:Option Operand}{n id:Nat}{l r:List α}{a:Int}(hz:subZ l a (l.length:Int)=some r)(h1:Γ t=some i1)(h1':i1.desc=.slice e)(h2:Γ e=some i2)(hx:fr.ev x=some (.sl id n))(hn:n=l.length)(hlo:fr.bound lo 0=some (0:Int))(hhi:fr.bound hi n=some a)
  (hd:Nat.blt d N=true) (k:EO P F N ops rest Q ((d,.sl id (l.take a.toNat).length) :: fr) hp):EO P F N ops (⟨some d,.slice t x lo hi none,ty,pos,after,none⟩ :: rest) Q fr hp:=by
 obtain⟨a',b',ea,eb,e1,e2,rfl⟩:=Kea hz
 subst ea;subst hn
 rw[Int.toNat_natCast,show(l.take a').length=a' by simp;omega] at k
 exact Kck hΓ a' h1 h1' h2 hx hlo hhi (by omega) hd k
theorem Kip{l:List Oper}(t:Nat){id n n':Nat}(h:fr.get t=some (.sl id n))(e:n=n')(k:EO P F N ops l Q ((t,.sl id n') :: fr) hp):EO P F N ops l Q fr hp:=by
 subst e
 intro Z w0 O0 M0 w M a hs ha hr
 refine k Z w0 O0 M0 w M a hs ha ⟨hr.heap,fun t' g hg=>?_,hr.size,hr.defers⟩
 rw[Fr.get_cons] at hg
 cases ht:Nat.beq t t' with
 | true=>
  obtain rfl:=nEq ht
  simp at hg
  subst hg
  exact hr.fr t _ h
 | false=>
  simp[ht] at hg
  first
   | exact hr.fr t' g hg
   | (have hne:¬ t=t':=(fun e=>by(subst e;simp at ht));simp[hne] at hg;exact hr.fr t' g hg)
theorem Kiq(hΓ:TOK P Γ){t tb:TypeId}{x y:Operand}{i:TI}{id off:Nat}{gs new:List G}{hp2:List Ob}(hi:Γ t=some i)(hx:fr.ev x=some (.ptr id off))(ho:hp[id]?=some (.box tb gs))(hy:fr.ev y=some g)(hg:cellsG g=some new)
  (h1:new.all G.one=true) (hsz:Nat.beq new.length i.size=true) (hfit:Nat.ble (off+new.length) gs.length=true) (hhp:hp.set id (.box tb (setAt gs off new))=hp2):OpU P N ⟨none,.store t x y,ty,pos,after,gd'⟩ fr hp hp2:=by
 subst hhp
 exact Khv hΓ hi hx ho hy hg h1 hsz hfit
end
end Go.Gk
namespace Go.Gk
section
variable{P:Program}{Γ:TypeId→Option TI}{F N:Nat}{Q:GPost}{fr fr':Fr}{hp hp':List Ob}{ks:List Kt}
variable{α:Type}{enc:α→List D}{ops:Array Oper}{rest:List Oper}{g:G}
variable{d:Tmp}{op:Op}{ty:TypeId}{pos:String}{after:Array Edge}{gd':Option (Nat×Bool)}
theorem Kir(hΓ:TOK P Γ){t tb:TypeId}{x y:Operand}{i:TI}{id off sz n:Nat}{ds nd:List D}{new:List G}(hi:Γ t=some i)(hx:fr.ev x=some (.ptr id off))(ho:hp[id]?=some (.row tb sz n ds))(hy:fr.ev y=some g)(hg:cellsG g=some new)(hnd:toDs new=some nd)
  (hsz:Nat.beq new.length i.size=true) (hfit:off+nd.length≤ds.length) :
  OpU P N ⟨none,.store t x y,ty,pos,after,gd'⟩ fr hp (hp.set id (.row tb sz n (setAt ds off nd))):=fun Z w M a hr=>by
 have hvx:=hr.ev hx
 have hnew:=Kbf hnd
 have h1:new.all G.one=true:=by rw[hnew];simp[G.one]
 have hvy:=Kql (hr.ev hy) hg h1
 have hnl:nd.length=new.length:=by rw[hnew];simp
 have hvd:DataR w (ownZ Z hp M) (a.eval y).cells nd:=fun j dd hj=>by
  obtain⟨v,e1,e2,e3⟩:=hvy.2 j (.d dd) (by rw[hnew,gMp,hj];rfl)
  cases e3 with
  | d h=>exact⟨v,e1,h⟩
 simp only[execOp]
 generalize a.eval x=vx at hvx
 cases hvx with
 | ptr hM=>
  rename_i b c
  obtain⟨hdl,cs,hb,hcl,hnc,hcm,hcr⟩:=hr.heap.obj id _ _ ho hM
  have hle:ds.length≤cs.size:=by rw[hdl,hcl];exact Nat.mul_le_mul_right _ hnc
  have hvl:(a.eval y).cells.toList.length=nd.length:=by simp[hvy.1,hnl]
  obtain⟨w',r1,r2,r3⟩:=Kqr (P:=P) (o':=.row tb sz n (setAt ds off nd)) hr.heap ho rfl hM hb (off:=off) (vs:=(a.eval y).cells.toList) (by rw[hvl];omega) (fun v hv=>by
    obtain⟨j,hj⟩:=List.getElem?_of_mem hv
    have hlt:j<new.length:=by rw[←hnl,←hvl];exact(gEs.1 hj).1
    obtain⟨u,e1,e2,_⟩:=hvy.2 j _ (gGe hlt)
    have:some v=some u:=by rw[←e1,←hj];simp
    cases this;exact e2)
   (fun w' hst hh=>⟨by rw[Kqq hfit];exact hdl,_,hh,by simp[Kqq (show off+(a.eval y).cells.toList.length≤cs.toList.length by rw[hvl];simp;omega),hcl],hnc,hcm,DataR.setAt
    (fun j g hj=>let ⟨v,e1,e2⟩:=hcr j g hj;⟨v,e1,e2.step hst⟩) (fun j g hj=>let ⟨v,e1,e2⟩:=hvd j g hj;⟨v,e1,e2.step hst⟩) (by rw[hvy.1,hnl]) hfit hle⟩) rfl
  refine⟨w',M,?_,r2,r3,⟨by rw[hr.heap.len];exact Nat.le_refl _,fun _ _=>rfl⟩⟩
  have hs:=run_size' (P:=P) (w:=w) hΓ hi
  have:(a.eval y).cells.size=i.size:=by rw[hvy.1];exact nEq hsz
  simp[Instr.storeAt,Instr.sureAddr,storeVar,hs,this,r1]
theorem Kis(hΓ:TOK P Γ){t tb:TypeId}{x y:Operand}{i:TI}{id off sz:Nat}{l:List α}{z':α}{new:List G}{hp2:List Ob}(j:Nat)(hlt:j<l.length)(hi:Γ t=some i)(hx:fr.ev x=some (.ptr id off))(hoff:off=j * sz)(ho:hp[id]?=some (.row tb sz l.length (l.flatMap enc)))
  (henc:∀ y,(enc y).length=sz) (hy:fr.ev y=some g) (hg:cellsG g=some new) (hnd:toDs new=some (enc z'))
  (hsz:Nat.beq new.length i.size=true) (hhp:hp.set id (.row tb sz (l.set j z').length ((l.set j z').flatMap enc))=hp2):OpU P N ⟨none,.store t x y,ty,pos,after,gd'⟩ fr hp hp2:=by
 subst hhp
 have hfl:=Kem henc l
 have hle:(j+1) * sz≤l.length * sz:=Nat.mul_le_mul_right _ hlt
 rw[Nat.add_mul] at hle
 have he:enc z'=setAt (enc l[j]) 0 (enc z'):=by
  unfold setAt
  simp[henc]
 have hset:=Kep henc (gGe hlt) (fo:=0) (by rw[henc];omega) he
 have:=Kir (P:=P) (N:=N) (ty:=ty) (pos:=pos) (after:=after) (gd':=gd') hΓ hi hx ho hy hg hnd hsz (by rw[hfl,henc,hoff];omega)
 rw[Nat.add_zero,←hoff] at hset
 rw[hset,List.length_set]
 exact this
theorem Kit{c:Code}(t:Nat){id n n':Nat}(h:fr.get t=some (.sl id n))(e:n=n')(k:St.holds P F N Q (.code c ks) ((t,.sl id n') :: fr) hp):St.holds P F N Q (.code c ks) fr hp:=by
 subst e
 refine Kfw (fun t' g hg=>?_) k
 rw[Fr.get_cons] at hg
 by_cases ht:t=t'
 ·subst ht
  simp at hg
  subst hg
  exact h
 simpa [ht] using hg
end
end Go.Gk
namespace Go.Gk
section
variable{P:Program}{Γ:TypeId→Option TI}{F N:Nat}{Q:GPost}{fr fr':Fr}{hp hp':List Ob}{ks:List Kt}
variable{α:Type}{enc:α→List D}{ops:Array Oper}{rest:List Oper}{g:G}
variable{d:Tmp}{op:Op}{ty:TypeId}{pos:String}{after:Array Edge}{gd:Option (Nat×Bool)}
theorem Kiu(hΓ:TOK P Γ){t e:TypeId}{i1 i2:TI}{x y:Operand}{id sz o n:Nat}{l:List α}{z:α}{kd:IntKind}{k:Int}(hz:getZ l k=some z)(h1:Γ t=some i1)(h1':i1.desc=.slice e)(h2:Γ e=some i2)(hx:fr.ev x=some (.slo id sz o n))(hsz:sz=i2.size)(hn:n=l.length)
  (hy:fr.ev y=some (.d (.v (.int kd k)))):OpP P N ⟨some d,.indexAddr t x y,ty,pos,after,gd⟩ fr hp (.ptr id ((o+k.toNat) * i2.size)):=fun Z w M a hr=>by
 obtain⟨i,rfl,hi,_⟩:=Kdy hz
 subst hsz
 obtain⟨u1,_⟩:=hΓ t _ h1
 rw[h1'] at u1
 have hs:=run_size' (P:=P) (w:=w) hΓ h2
 have hvx:=hr.ev hx
 simp only[execOp,hr.ev_v hy]
 generalize a.eval x=vx at hvx
 cases hvx with
 | slonil hM=>omega
 | slo hM hnc hm=>
  rename_i b c
  have hco:¬ c=o:=by omega
  rw[Int.toNat_natCast]
  refine⟨.pointer (some ⟨b,(o+i) * i2.size,none⟩),?_,.ptr hM⟩
  have:(0:Int)≤(i:Int)∧(i:Int)<(n:Int):=by omega
  have hin:i<n:=by omega
  simp[Instr.indexAt,asIntOf,run_underlying u1,hs,this,Addr.add_lit,hin,hco,Nat.add_mul]
end
end Go.Gk
