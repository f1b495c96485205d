import Derived.Test.YtcihhlhmkcaeeaaGreatDoorGk13
import Derived.Sort.Row
import Derived.Laws.BytesArg
set_option linter.all false
namespace Go.Gk
theorem w64{x:Int}(h : -9223372036854775808≤x∧x≤9223372036854775807):IntKind.i64.wrap x=x:=IntWalk.i64_in _ (by omega)
theorem Kcr{i:Nat}(h:i<9223372036854775807):IntKind.i64.wrap ((i:Int)+1)=((i+1:Nat):Int):=by rw[w64 (by omega)];omega
@[simp] theorem size_S (l:List UInt8):(⟨l.toArray⟩:ByteArray).size=l.length:=by show l.toArray.size=_;simp
@[simp] theorem toList_S (l:List UInt8):(⟨l.toArray⟩:ByteArray).toList=l:=ByteArray.toList_mk l
theorem Kcs{fr:Fr}{t:Nat}{x y:Int}{k:IntKind}(h:fr.get t=some (.d (.v (.int k x))))(e:x=y):fr.get t=some (.d (.v (.int k y))):=by rw[←e];exact h
theorem Kct{fr:Fr}{t:Nat}{x y:Bool}(h:fr.get t=some (.d (.v (.bool x))))(e:x=y):fr.get t=some (.d (.v (.bool y))):=by rw[←e];exact h
end Go.Gk
namespace Go.Gk
section
variable{P:Program}{F N:Nat}{Q:GPost}{fr:Fr}{hp:List Ob}
end
end Go.Gk
namespace Go.Gk
section
variable{P:Program}{Γ:TypeId→Option TI}{F N:Nat}{fr:Fr}{hp:List Ob}{g:G}{Q:GPost}{QF:Fr→Prop}{ops:Array Oper}{rest:List Oper}
variable{d:Tmp}{op:Op}{ty:TypeId}{pos:String}{after:Array Edge}{gd:Option (Nat×Bool)}
theorem eo_o(hd:Nat.blt d N=true)(ho:OpP P N ⟨some d,op,ty,pos,after,none⟩ fr hp g)(h:EO P F N ops rest Q ((d,g) :: fr) hp):EO P F N ops (⟨some d,op,ty,pos,after,none⟩ :: rest) Q fr hp:=eo_p hd ho h
theorem gl_o(hd:Nat.blt d N=true)(ho:OpP P N ⟨some d,op,ty,pos,after,none⟩ (fr.only (Oper.looksAt ops ⟨some d,op,ty,pos,after,none⟩)) hp g)(h:GL P N hp ops QF rest ((d,g) :: fr)):GL P N hp ops QF (⟨some d,op,ty,pos,after,none⟩ :: rest) fr:=gl_q hd (.inl rfl) (qt_p ho) h
theorem Kcu{j:Nat}{want:Bool}(hg:fr.guard ops j want=some true)(hd:Nat.blt d N=true)(ho:OpP P N ⟨some d,op,ty,pos,after,some (j,want)⟩ (fr.only (Oper.looksAt ops ⟨some d,op,ty,pos,after,some (j,want)⟩)) hp g)(h:GL P N hp ops QF rest ((d,g) :: fr)) :
  GL P N hp ops QF (⟨some d,op,ty,pos,after,some (j,want)⟩ :: rest) fr:=gl_q hd (.inr ⟨j,want,rfl,hg⟩) (qt_p ho) h
theorem Kcv{t t':TypeId}{x y:Operand}{k:IntKind}{m n:Int}(hx:fr.ev x=some (.d (.v (.int k m))))(hy:fr.ev y=some (.d (.v (.int k n))))(hn:n≠0):OpP P N ⟨some d,.binOp .quo t x y t',ty,pos,after,gd⟩ fr hp (.d (.v (.int k (k.wrap (m.tdiv n))))):=fun Z w M a hr=>⟨_,by
 simp[execOp,hr.ev_v hx,hr.ev_v hy,eqGuard,binOp,Op.intDiv,hn],.d (.v _ rfl)⟩
theorem Kcw{t t':TypeId}{x y:Operand}{k:IntKind}{m n:Int}(hx:fr.ev x=some (.d (.v (.int k m))))(hy:fr.ev y=some (.d (.v (.int k n))))(hn:n≠0):OpP P N ⟨some d,.binOp .rem t x y t',ty,pos,after,gd⟩ fr hp (.d (.v (.int k (m.tmod n)))):=fun Z w M a hr=>⟨_,by
 simp[execOp,hr.ev_v hx,hr.ev_v hy,eqGuard,binOp,Op.intDiv,hn],.d (.v _ rfl)⟩
theorem Kcx(hΓ:TOK P Γ){t:TypeId}{i1:TI}{x y:Operand}{l:List UInt8}{c:UInt8}{kd:IntKind}{k:Int}(i:Nat)(h1:Γ t=some i1)(h1':i1.desc=.string)(hx:fr.ev x=some (S l))(hy:fr.ev y=some (.d (.v (.int kd k))))(hk:k=(i:Int))
  (hc:l[i]?=some c):OpP P N ⟨some d,.index t x y,ty,pos,after,gd⟩ fr hp (.d (.v (.int .u8 c.toNat))):=fun Z w M a hr=>by
 obtain⟨u1,_⟩:=hΓ t _ h1
 rw[h1'] at u1
 subst hk
 have hlt:i<l.length:=(gEs.1 hc).1
 have hb:(⟨l.toArray⟩:ByteArray)[i]?=some c:=by
  have:(⟨l.toArray⟩:ByteArray)[i]?=some ((⟨l.toArray⟩:ByteArray)[i]'(show i<l.toArray.size by simpa using hlt)):=ByteArray.getElem?_lt' _ _ (show i<l.toArray.size by simpa using hlt)
  rw[this]
  have e:=(gEs.1 hc).2
  simp[ByteArray.getElem_eq_getElem_data,e]
 refine⟨_,?_,.d (.v _ rfl)⟩
 simp[execOp,hr.ev_v hx,hr.ev_v hy,Instr.index,asIntOf,run_underlying u1,hb]
theorem Kcy(hΓ:TOK P Γ){t e:TypeId}{i1 i2:TI}{x y:Operand}{n id:Nat}{kd:IntKind}{k:Int}(i:Nat)(h1:Γ t=some i1)(h1':i1.desc=.slice e)(h2:Γ e=some i2)(hx:fr.ev x=some (.sl id n))
  (hy:fr.ev y=some (.d (.v (.int kd k)))) (hk:k=(i:Int)) (hi:i<n):OpP P N ⟨some d,.indexAddr t x y,ty,pos,after,gd⟩ fr hp (.ptr id (i * i2.size)):=fun Z w M a hr=>by
 obtain⟨u1,_⟩:=hΓ t _ h1
 rw[h1'] at u1
 have hs:=run_size' (P:=P) (w:=w) hΓ h2
 have hvx:=hr.ev hx
 simp only[execOp,hr.ev_v hy]
 generalize a.eval x=vx at hvx
 subst hk
 cases hvx with
 | slnil hM=>omega
 | sl hM hn hm=>
  rename_i b c
  refine⟨.pointer (some ⟨b,i * i2.size,none⟩),?_,.ptr hM⟩
  have:(0:Int)≤(i:Int)∧(i:Int)<(n:Int):=by omega
  simp[Instr.indexAt,asIntOf,run_underlying u1,hs,this,Addr.add_lit,hi]
theorem Kcz(hΓ:TOK P Γ){t tb:TypeId}{i:TI}{x:Operand}{id off sz n:Nat}{ds ys:List D}(hi:Γ t=some i)(hx:fr.ev x=some (.ptr id off))(ho:hp[id]?=some (.row tb sz n ds))(hys:∀ j d,ys[j]?=some d→ds[off+j]?=some d)
  (hg:loadD i ys 0=some g):OpP P N ⟨some d,.load t x,ty,pos,after,gd⟩ fr hp g:=fun Z w M a hr=>by
 have hvx:=hr.ev hx
 simp only[execOp]
 generalize a.eval x=vx at hvx
 cases hvx with
 | ptr hM=>
  rename_i b c
  obtain⟨_,cs,hb,_,_,_,hcr⟩:=hr.heap.obj id _ _ ho hM
  obtain⟨hu,_⟩:=hΓ t i hi
  rw[Kpt] at hg
  have hcell:∀ (j:Nat) (d:D),ys[j]?=some d→∃ v,w.cell? ⟨b,off+j,none⟩=some v∧VD w (ownZ Z hp M) d v:=fun j d hj=>by
   obtain⟨v,e1,e2⟩:=hcr _ d (hys j d hj)
   exact⟨v,by rw[cell_of_row w b _ cs _ _ hb];exact e1,e2⟩
  unfold loadG at hg
  cases hb':TypeDesc.isAgg i.desc with
  | true=>
   rw[hb'] at hg
   cases hn:Nat.ble (0+i.size) (ys.map G.d).length with
   | false=>rw[hn] at hg;cases hg
   | true=>
    rw[hn] at hg
    cases hg
    have hle:i.size≤ys.length:=by have:=nBe hn;simpa using this
    have hin:∀ j,(hj:j<i.size)→ys[j]?=some (ys[j]'(by omega)):=fun j hj=>gGe (by omega)
    have hrun:=run_loadCells (P:=P) w ⟨b,off,none⟩ i.size (fun j=>(w.cell? ⟨b,off+j,none⟩).getD undef) (fun j hj=>by
     obtain⟨v,e1,_⟩:=hcell j _ (hin j hj)
     rw[Addr.add_lit,e1];rfl)
    refine⟨_,by simp[Instr.loadAt,Instr.sureAddr,loadVar,run_isAgg' hu,hb',run_size' hΓ hi,hrun];rfl,?_⟩
    refine .agg (by simp;omega) fun j g v hg hv'=>?_
    rw[List.getElem?_take] at hg
    split at hg
    ·rename_i hj
     simp only[List.drop_zero,List.getElem?_map] at hg
     obtain⟨d,hd,rfl⟩:=oMs.1 hg
     obtain⟨u,e1,e2⟩:=hcell j d hd
     have:v=u:=by simpa [hj,e1] using hv'.symm
     rw[this]
     exact .d e2
    ·cases hg
  | false=>
   rw[hb'] at hg
   have hg':(ys.map G.d)[0]?=some g:=by rw[cond_false,Kpq] at hg;exact hg
   rw[gMp] at hg'
   obtain⟨d,hd,rfl⟩:=oMs.1 hg'
   obtain⟨u,e1,e2⟩:=hcell 0 d hd
   simp only[Nat.add_zero] at e1
   exact⟨_,by simp[Instr.loadAt,Instr.sureAddr,loadVar,run_isAgg' hu,hb',e1],.d e2⟩
theorem EC.one{f:FuncId}{gc gs:List G}{o:Ob}{Rc:G→List Ob→Prop}{id:Nat}(h:EC P f gc [o] Rc)(hid:hp[id]?=some o)(ho:∀ f,o.ren f=o)(ho1:o.bel 1=true)(hgc:G.belAll 1 gc=true)(hgs:gs=gc.map (G.ren (rn [id] hp.length)))
  (hR:∀ g hp',Rc g hp'→(∀ f,g.ren f=g)∧∃ o',hp'=[o']∧∀ f,o'.ren f=o') (hsl:hp.all Ob.sole=true:=by first | exact rfl | exact .inr rfl | exact .inl rfl | assumption):EC P f gs hp (fun g hp'=>∃ o',Rc g [o']∧hp'=hp.set id o'):=by
 subst hgs
 refine(EC.frame (hp:=hp) h [id] rfl (List.nodup_cons.2 ⟨by simp,List.nodup_nil⟩) (fun i o' r h1 h2=>?_) (fun i o' h1=>?_) (.inr hsl) hgc).mono ?_
 ·cases i with
  | zero=>simp at h1 h2;subst h1;subst h2;rw[ho];exact hid
  | succ i=>simp at h1
 ·cases i with
  | zero=>simp at h1;subst h1;exact ho1
  | succ i=>simp at h1
 ·rintro g hp' ⟨g0,hc',h1,rfl,h2,rfl⟩
  obtain⟨e1,o',rfl,e2⟩:=hR g0 hc' h1
  refine⟨o',by rw[e1];exact h1,?_⟩
  simp[upd,e2]
theorem Pure.of_belowX{f:FuncId}{gs:List G}{vs:List Value}{r:Value}(hv:plainV gs=some vs)(h1:r.oneCell'=true)(h:∀ w,TabX w→Calls P f vs.toArray w fun e w'=>e=.returned r∧RowKit.Below w.heap.size w w'):Pure P f gs (.d (.v r)):=by
 have hpl:∀ (gs:List G) (vs:List Value),plainV gs=some vs→gs.length=vs.length∧∀ j:Nat,∀ g,gs[j]?=some g→∃ x,g=.d (.v x)∧vs[j]?=some x:=by
  intro gs
  induction gs with
  | nil=>intro vs h;simp[plainV] at h;subst h;simp
  | cons g gs ih=>
   intro vs h
   cases g with
   | d x=>
    cases x with
    | v c=>
     simp only[plainV] at h
     cases hp0:plainV gs with
     | none=>rw[hp0] at h;cases h
     | some vs0=>
      rw[hp0] at h
      cases h
      obtain⟨l,hh⟩:=ih vs0 hp0
      refine⟨by simp[l],fun j g hg=>?_⟩
      cases j with
      | zero=>simp at hg;exact⟨c,hg.symm,by simp⟩
      | succ j=>simpa using hh j g (by simpa using hg)
    | ro _ _=>simp[plainV] at h
    | rf _ _=>simp[plainV] at h
    | rt _ _ _ _ _=>simp[plainV] at h
    | hd _ _=>simp[plainV] at h
    | rv _ _ _ _=>simp[plainV] at h
   | _=>simp[plainV] at h
 intro Z w M vs' hr hsz hvs
 have hvs':vs'=vs.toArray:=by
  obtain⟨l,hh⟩:=hpl gs vs hv
  apply Array.ext
  ·simp[hsz,l]
  intro i h1 h2
  have hg:gs[i]?=some (gs[i]'(by omega)):=gGe (by omega)
  obtain⟨x,e1,e2⟩:=hh i _ hg
  have:=hvs i _ _ (hg.trans (by rw[e1])) (Array.getElem?_eq_getElem h1)
  rw[vr_v this]
  have:=(gEs.1 e2).2
  simp[this]
 subst hvs'
 refine(h w (Z.ax w hr.amb)).mono ?_
 rintro e w' ⟨rfl,hb⟩
 have hst:Stp w (own [] M) w' (own [] M):=.mk' hb.size (fun b hlt _=>hb.block b hlt) (fun _ _ h=>h) hb.os hb.tape hb.output rfl (fun g=>g) fun x hx _=>hb.block _ (hr.bags.tgs x hx).1
 have hr':RelH Z [] M w':=by
  refine⟨hr.len,fun i o m h=>by simp at h,hr.apart,fun b hz=>nLl (hr.old b hz) hb.size,hr.amb_stp hst,hr.inj,hr.bags.mono rfl hb.size (fun _ _ h=>h) (fun _ _ _ _ h=>h)⟩
 exact⟨r,.d (.v r),[],M,rfl,⟨rfl,rfl⟩,hr',.d (.v r h1),hst,⟨by simp,fun i hi=>by simp at hi⟩⟩
theorem Pure.of_below{f:FuncId}{gs:List G}{vs:List Value}{r:Value}(hv:plainV gs=some vs)(h1:r.oneCell'=true)(h:∀ w,Calls P f vs.toArray w fun e w'=>e=.returned r∧RowKit.Below w.heap.size w w'):Pure P f gs (.d (.v r)):=Pure.of_belowX hv h1 fun w _=>h w
theorem Pure.of_same{f:FuncId}{gs:List G}{vs:List Value}{r:Value}(hv:plainV gs=some vs)(h1:r.oneCell'=true)(h:∀ w,Calls P f vs.toArray w fun e w'=>e=.returned r∧w'=w):Pure P f gs (.d (.v r)):=
 Pure.of_below hv h1 fun w=>(h w).mono fun e w' ⟨he,hw⟩=>⟨he,by subst hw;exact RowKit.Below.refl _ _⟩
end
end Go.Gk
namespace Go.Gk
section
variable{P:Program}{Γ:TypeId→Option TI}{F N:Nat}{fr:Fr}{hp:List Ob}{g:G}
theorem Kda:∀ (gs:List G) (vs:List Value),plainV gs=some vs→gs.length=vs.length∧∀ (j:Nat) (g:G),gs[j]?=some g→∃ x,g=.d (.v x)∧vs[j]?=some x:=by
 intro gs
 induction gs with
 | nil=>intro vs h;simp[plainV] at h;subst h;simp
 | cons g gs ih=>
  intro vs h
  cases g with
  | d x=>
   cases x with
   | v c=>
    simp only[plainV] at h
    cases hp0:plainV gs with
    | none=>rw[hp0] at h;cases h
    | some vs0=>
     rw[hp0] at h
     cases h
     obtain⟨l,hh⟩:=ih vs0 hp0
     refine⟨by simp[l],fun j g hg=>?_⟩
     cases j with
     | zero=>simp at hg;exact⟨c,hg.symm,by simp⟩
     | succ j=>simpa using hh j g (by simpa using hg)
   | ro _ _=>simp[plainV] at h
   | rf _ _=>simp[plainV] at h
   | rt _ _ _ _ _=>simp[plainV] at h
   | hd _ _=>simp[plainV] at h
   | rv _ _ _ _=>simp[plainV] at h
  | _=>simp[plainV] at h
theorem Kdb{gs:List G}{vs:List Value}(hv:plainV gs=some vs){w:World}{O:Ow}{M:Mp}{vs':Array Value}(hsz:vs'.size=gs.length)(hvs:∀ (j:Nat) (g:G) (v:Value),gs[j]?=some g→vs'[j]?=some v→VR w O M g v):vs'=vs.toArray:=by
 obtain⟨l,hh⟩:=Kda gs vs hv
 apply Array.ext
 ·simp[hsz,l]
 intro i h1 h2
 have hg:gs[i]?=some (gs[i]'(by omega)):=gGe (by omega)
 obtain⟨x,e1,e2⟩:=hh i _ hg
 have:=hvs i _ _ (hg.trans (by rw[e1])) (Array.getElem?_eq_getElem h1)
 rw[vr_v this]
 have:=(gEs.1 e2).2
 simp[this]
theorem EC.of_alloc{f:FuncId}{gs:List G}{vs:List Value}{n sz:Nat}{xs:List Value}{t:TypeId}(hv:plainV gs=some vs)(h1:∀ v∈xs,v.oneCell'=true)(hn:xs.length=n * sz)(hm:n≤maxLen)
  (h:∀ w,Calls P f vs.toArray w fun e w'=>e=.returned (.slice (some ⟨w.heap.size,0,none⟩) n n)∧w'=w.alloc (.cells xs.toArray t)):EC P f gs [] fun g hp'=>g=.sl 0 n∧hp'=[.row t sz n (xs.map D.v)]:=by
 intro Z w M vs' hr hsz hvs
 have:=Kdb hv hsz hvs
 subst this
 refine(h w).mono ?_
 rintro e w' ⟨rfl,rfl⟩
 have hM:M.l=[]:=List.length_eq_zero_iff.1 (by simpa using hr.len)
 obtain⟨f1,f2,f3⟩:=Kqk hr (.row t sz n (xs.map D.v)) xs.toArray t n fun w' O' hst hh=>⟨by simp[hn],_,hh,by simp[hn],Nat.le_refl _,hm,fun j d hd=>by
  rw[gMp] at hd
  obtain⟨v,hv',rfl⟩:=oMs.1 hd
  exact⟨v,by simpa using hv',.v v (h1 v (mOg hv'))⟩⟩
 exact⟨_,.sl 0 n,_,_,rfl,⟨rfl,rfl⟩,f1,.sl (c:=n) (by simp[hM]) (Nat.le_refl _) hm,f2,f3⟩
theorem Pure.of_same2{f:FuncId}{gs:List G}{vs:List Value}{r:Value}{g:G}(hv:plainV gs=some vs)(hg:∀ w O M,VR w O M g r)(h:∀ w,Calls P f vs.toArray w fun e w'=>e=.returned r∧w'=w):Pure P f gs g:=by
 intro Z w M vs' hr hsz hvs
 have:=Kdb hv hsz hvs
 subst this
 refine(h w).mono ?_
 rintro e w' ⟨rfl,rfl⟩
 exact⟨r,g,[],M,rfl,⟨rfl,rfl⟩,hr,hg _ _ _,Stp.refl _ _,⟨Nat.zero_le _,fun _ _=>rfl⟩⟩
end
end Go.Gk
namespace Go.Gk
section
variable{P:Program}{Γ:TypeId→Option TI}{F N:Nat}{fr:Fr}{hp:List Ob}{g:G}{Z:Env}{M:Mp}{w:World}
theorem Kdc(hr:RelH Z hp M w){id b c:Nat}{o o':Ob}(ho:hp[id]?=some o)(hl:o.live=true)(hM:M.l[id]?=some (some (b,c))){w':World}(hsz:w'.heap.size=w.heap.size)(hother:∀ k,k≠b→w'.heap[k]?=w.heap[k]?)
  (h1:w'.os=w.os) (h2:w'.tape=w.tape) (h3:w'.output=w.output)
  (ho':Stp w (ownZ Z hp M) w' (ownZ Z (hp.set id o') M)→ObR w' (ownZ Z (hp.set id o') M) M o' (some (b,c))) (hl':o'.live=true) (hog:o'.isBag=false:=by rfl) :
  RelH Z (hp.set id o') M w'∧Stp w (own hp M) w' (own (hp.set id o') M):=by
 have hid:id<hp.length:=(gEs.1 ho).1
 have hob:∀ b',obOwn (hp.set id o') M b'→obOwn hp M b':=by
  rintro b' ⟨i,oi,ci,e1,e2,e3⟩
  by_cases hi:i=id
  ·subst hi;exact⟨i,o,ci,ho,hl,e3⟩
  ·rw[gSn (Ne.symm hi)] at e1;exact⟨i,oi,ci,e1,e2,e3⟩
 have hown:∀ b',own (hp.set id o') M b'→own hp M b':=fun b' h=>Kod h (hob b') (fun g=>g.of (Koe hog)) rfl
 have htags:=hr.tags (w':=w') ⟨id,o,c,ho,hl,hM⟩ (fun k _ hk=>hother k hk)
 have hst:Stp w (own hp M) w' (own (hp.set id o') M):=
  .mk' (by omega) (fun b' _ hn=>hother b' fun e=>hn (e▸.inl ⟨id,o,c,ho,hl,hM⟩)) (fun b' _ h=>hown b' h) h1 h2 h3 rfl (fun g=>g.of (Koe hog)) (hr.bags.ht htags)
 refine⟨⟨by simp[hr.len],fun i oi m e1 e2=>?_,fun b' hb' hz=>hr.apart b' (hown b' hb') hz,fun b' hz=>by have:=hr.old b' hz;omega,hr.amb_stp hst,fun i j oi oj b1 c1 c2 e1 e2 l1 l2 m1 m2=>?_,hr.bags.mono rfl (by omega) (fun b' _=>hob b') (Koe hog)⟩,hst⟩
 ·by_cases hi:i=id
  ·subst hi
   simp[hid] at e1
   subst e1
   rw[hM] at e2
   cases e2
   exact ho' (Koi Z hst)
  ·rw[gSn (Ne.symm hi)] at e1
   have:=hr.obj i oi m e1 e2
   refine this.move (k:=M.l.length) (Koi Z hst) (fun _ _=>rfl) this.bel (fun b' c' e hl2=>?_) (hr.bags.kp htags rfl e1)
   subst e
   refine hother b' fun e=>hi ?_
   subst e
   exact hr.inj i id oi o b' c' c e1 ho hl2 hl e2 hM
 ·have key:∀ (i:Nat) (oi:Ob),(hp.set id o')[i]?=some oi→oi.live=true→∃ oi':Ob,hp[i]?=some oi'∧oi'.live=true:=fun i oi e1 l1=>by
   by_cases hi:i=id
   ·subst hi;exact⟨o,ho,hl⟩
   ·rw[gSn (Ne.symm hi)] at e1;exact⟨oi,e1,l1⟩
  obtain⟨oi',f1,f2⟩:=key i oi e1 l1
  obtain⟨oj',f3,f4⟩:=key j oj e2 l2
  exact hr.inj i j oi' oj' b1 c1 c2 f1 f3 f2 f4 m1 m2
end
end Go.Gk
namespace Go.Gk
section
variable{P:Program}{Γ:TypeId→Option TI}{F N:Nat}{fr:Fr}{hp:List Ob}{g:G}{Q:GPost}{ops:Array Oper}{rest:List Oper}
variable{d:Tmp}{op:Op}{ty:TypeId}{pos:String}{after:Array Edge}{gd:Option (Nat×Bool)}
end
end Go.Gk
namespace Go.Gk
def DLe:List D→List D→Prop
 | [],[]=>True
 | x :: xs,y :: ys=>(x=y∨(x=.v (.slice none 0 0)∧y=.ro 0 []))∧DLe xs ys
 | _,_=>False
theorem DLe.at:∀ {xs ys:List D},DLe xs ys→∀ (j:Nat) (d:D),ys[j]?=some d→∃ d0,xs[j]?=some d0∧(d0=d∨(d0=.v (.slice none 0 0)∧d=.ro 0 []))
 | [],[],_,j,d,h=>by simp at h
 | x :: xs,y :: ys,h,0,d,hd=>by
  simp at hd
  subst hd
  exact⟨x,rfl,h.1⟩
 | x :: xs,y :: ys,h,j+1,d,hd=>by simpa using DLe.at h.2 j d (by simpa using hd)
theorem DLe.nil{ys:List D}(h:DLe [] ys):ys=[]:=by
 cases ys with
 | nil=>rfl
 | cons y ys=>exact h.elim
theorem G.Le.ro{n:Nat}{xs ys:List D}(h:DLe xs ys):G.Le (.d (.ro n xs)) (.d (.ro n ys)):=fun w O M v hv=>by
 cases hv with
 | d hv=>
  cases hv with
  | nil=>rw[h.nil];exact .d .nil
  | ro n xs b off cap vs hb hO hn hm hc hv=>
   refine .d (.ro n ys b off cap vs hb (fun j hj=>hO j (by obtain⟨d0,h0,_⟩:=h.at j _ (gGe hj);exact(gEs.1 h0).1)) hn hm (fun j d hj=>?_) (fun j d hj=>?_))
   ·obtain⟨d0,h0,_⟩:=h.at j d hj
    exact hc j d0 h0
   obtain⟨d0,h0,e⟩:=h.at j d hj
   have:=hv j d0 h0
   rcases e with rfl | ⟨rfl,rfl⟩
   ·exact this
   have hx:=this
   generalize vs j=u at hx
   cases hx
   exact .nil
section
variable{P:Program}{Γ:TypeId→Option TI}{F N:Nat}{fr:Fr}{hp:List Ob}{g:G}{Q:GPost}{ops:Array Oper}{rest:List Oper}
variable{d:Tmp}{op:Op}{ty:TypeId}{pos:String}{after:Array Edge}{gd:Option (Nat×Bool)}
theorem Kdd{t e:TypeId}(w:World)(a:Option Addr)(n c:Nat)(u:P.underlying t=some (.slice e)):(Op.equalIn Op.maxDepth t (.slice a n c) (.slice none 0 0)).run P w=.ok a.isNone w:=by
 rw[show Op.maxDepth=(Op.maxDepth - 1)+1 from rfl]
 cases a<;>simp[Op.equalIn,run_underlying u]
theorem Kde(hΓ:TOK P Γ){t t' e:TypeId}{i1:TI}{x y:Operand}{n:Nat}{xs:List D}(h1:Γ t=some i1)(h1':i1.desc=.slice e)(hx:fr.ev x=some (.d (.ro n xs)))(hy:y=.const (.slice none 0 0))(hd:Nat.blt d N=true)
  (k:∀ b:Bool,(b=true→n=0∧xs=[])→EO P F N ops rest Q ((d,B b) :: fr) hp):EO P F N ops (⟨some d,.binOp .eql t x y t',ty,pos,after,none⟩ :: rest) Q fr hp:=by
 intro Z w0 O0 M0 w M a hs ha hr
 refine wpList_plain rfl fun K hK=>?_
 obtain⟨u1,_⟩:=hΓ _ _ h1
 rw[h1'] at u1
 have hvx:=hr.ev hx
 have hyv:a.eval y=.slice none 0 0:=by subst hy;rfl
 have hrun:∀ (q:Option Addr) (m c:Nat),a.eval x=.slice q m c→(execOp a.eval ⟨some d,.binOp .eql t x y t',ty,pos,after,none⟩).run P w=.ok (.value (.bool q.isNone)) w:=fun q m c hq=>by
  simp[execOp,hyv,hq,eqGuard,binOp,Op.equal,Kdd w q m c u1]
 obtain⟨b,hb,hr'⟩:∃ b:Bool,(b=true→n=0∧xs=[])∧(execOp a.eval ⟨some d,.binOp .eql t x y t',ty,pos,after,none⟩).run P w=.ok (.value (.bool b)) w:=by
  generalize hq:a.eval x=vx at hvx
  cases hvx with
  | d hv=>
   cases hv with
   | nil=>exact⟨true,fun _=>⟨rfl,rfl⟩,hrun _ _ _ hq⟩
   | ro n xs b off cap vs hb hO hn hm hc hv=>exact⟨false,(fun h=>nomatch h),hrun _ _ _ hq⟩
 unfold Oper.wp
 rw[hr',Oper.upon_value]
 exact hK _ _ (k b hb Z w0 O0 M0 w M _ hs ha (hr.put (nblt.1 hd) (.d (.v _ rfl))))
end
end Go.Gk
