import Derived.Test.YtjmlnnanfkiakaaGreatDoorGk49
set_option linter.all false
namespace Go.Gk
section
variable{P:Program}{Γ:TypeId→Option TI}{F N:Nat}{Q:GPost}{fr fr':Fr}{hp hp':List Ob}{ks:List Kt}
variable{ops:Array Oper}{rest:List Oper}{g:G}
variable{d:Tmp}{op:Op}{ty t':TypeId}{pos:String}{after:Array Edge}{gd:Option (Nat×Bool)}
theorem Kmh{w:World}{O:Ow}{M:Mp}{off h:Nat}{v:Value}(hh:0<h)(hv:VR w O M (.d (.hd (some off) h)) v):∃ x:Tg,O.h[h - 1]?=some (some x)∧(x.sz=0∨x.v=true)∧v=.pointer (some ⟨x.b,off,none⟩):=by
 cases hv with
 | d hd=>cases hd with
  | hd _ _ _ hd=>
   match h,hd with
   | h+1,hd=>exact hd
theorem Kmi{x:Operand}{off h:Nat}(hh:Nat.blt 0 h=true)(hx:fr.ev x=some (.d (.hd (some off) h))):OpP P N ⟨some d,.nilCheck x,ty,pos,after,gd⟩ fr hp (.d (.hd (some off) h)):=fun Z w M a hr=>by
 have hvx:=hr.ev hx
 simp only[execOp]
 generalize a.eval x=vx at hvx
 obtain⟨y,_,_,rfl⟩:=Kmh (nblt.1 hh) hvx
 exact⟨_,rfl,hvx⟩
theorem Kmj(hΓ:TOK P Γ){t:TypeId}{x:Operand}{k off h:Nat}{i1 i2:TI}{fs:Array Field}{f:Field}(hh:Nat.blt 0 h=true)(h1:Γ t=some i1)(h1':i1.desc=.struct fs)(hf:fs[k]?=some f)(h2:Γ f.type=some i2)(hz:Nat.beq i2.size 0=false)
  (hx:fr.ev x=some (.d (.hd (some off) h))):OpP P N ⟨some d,.fieldAddr t x k,ty,pos,after,gd⟩ fr hp (.d (.hd (some (off+f.offset)) h)):=fun Z w M a hr=>by
 obtain⟨hu,_⟩:=hΓ t _ h1
 rw[h1'] at hu
 have hz':i2.size≠0:=fun e=>by rw[e] at hz;cases hz
 have hsz:=run_size' (P:=P) (w:=w) hΓ h2
 have hvx:=hr.ev hx
 simp only[execOp]
 generalize a.eval x=vx at hvx
 obtain⟨y,e1,e2,rfl⟩:=Kmh (nblt.1 hh) hvx
 refine⟨.pointer (some ⟨y.b,off+f.offset,none⟩),by simp[Instr.fieldAt,Instr.sureAddr,run_underlying hu,hf,fieldPlace,hsz,hz',Addr.add_lit],.d (.hd _ _ _ ?_)⟩
 have hh':=nblt.1 hh
 match h,hh',e1 with
 | h+1,_,e1=>exact⟨y,e1,e2,rfl⟩
theorem Kmk(hΓ:TOK P Γ){α:Type}{enc:α→List D}{t tb:TypeId}{i:TI}{tx:Tmp}{off bg h t0:Nat}{al:List Bool}{ar arn:List Ar}{lt:List (Nat×Nat)}{a':Ar}(xv:α)(hx:fr.get tx=some (.d (.hd (some off) h)))(hbag:hp[bg]?=some (.bag al ar lt))(hu:ArU ar h (fB tb enc t0 xv) a' arn)(hi:Γ t=some i)
  (hg:loadG i ((enc xv).map G.d) off=some g) (hg0:g.bel 0=true):OpP P N ⟨some d,.load t (.tmp tx),ty,pos,after,gd⟩ fr hp g:=
 Kkw tx hx hbag hu hg0 fun ar'=>Kpt hΓ (by
  have e1:Fr.ev ((tx,hdG (some off) hp.length) :: fr) (.tmp tx)=some (.ptr hp.length off):=Fr.ev_here
  simp only[pst,hi,Option.bind_some,e1,Kky]
  exact hg)
theorem Kml(hΓ:TOK P Γ){α:Type}{enc:α→List D}{t tb:TypeId}{i:TI}{tx:Tmp}{y:Operand}{off bg h t0:Nat}{al:List Bool}{ar arn:List Ar}{nd:List D}{new:List G}{hp2:List Ob}(xv xv':α)(hx:fr.get tx=some (.d (.hd (some off) h)))(hbag:hp[bg]?=some (.bag al ar []))
  (hu:ArU ar h (fB tb enc t0 xv) (fB tb enc t0 xv') arn) (hi:Γ t=some i) (hy:fr.ev y=some g) (hne:g≠.d (.hd (some off) h)) (hg:cellsG g=some new) (hnd:toDs new=some nd) (he:enc xv'=setAt (enc xv) off nd)
  (h1:new.all G.one=true) (hsz:Nat.beq new.length i.size=true) (hfit:Nat.ble (off+new.length) (enc xv).length=true) (h2':hp.set bg (.bag al arn [])=hp2):OpU P N ⟨none,.store t (.tmp tx) y,ty,pos,after,gd⟩ fr hp hp2:=by
 subst h2'
 have hnew:=Kae hnd
 refine Kkx tx (.box tb (setAt ((enc xv).map G.d) off new)) hx hbag hu rfl ⟨rfl,?_⟩ fun ar'=>Kgg hΓ hi Fr.ev_here Kky (Fr.ev_ne hx hy hne) hg h1 hsz (by simpa using hfit)
 rw[he,hnew]
 simp[setAt,List.map_append,List.map_take,List.map_drop]
theorem Kmm{w:World}(t e:TypeId)(a:Option Addr)(n c:Nat)(u:P.underlying t=some (.slice e)) :
  (binOp .eql t (.slice a n c) (.slice none 0 0)).run P w=.ok (.bool a.isNone) w∧(binOp .neq t (.slice a n c) (.slice none 0 0)).run P w=.ok (.bool (!a.isNone)) w:=by
 have h:(Op.equal t (.slice a n c) (.slice none 0 0)).run P w=.ok a.isNone w:=by
  unfold Op.equal
  rw[show Op.maxDepth=(Op.maxDepth - 1)+1 from rfl]
  cases a<;>simp[Op.equalIn,run_underlying u]
 constructor<;>simp[binOp,h]
theorem Kmn(hΓ:TOK P Γ){t e:TypeId}{i1:TI}{x y:Operand}{b:Bool}(h1:Γ t=some i1)(h1':i1.desc=.slice e)(hy:y=.const (.slice none 0 0))
  (hv:∀ Z w M a,Rel Z hp M w fr a N→∃ (p:Option Addr) (n c:Nat),a.eval x=.slice p n c∧p.isNone=b) :
  OpP P N ⟨some d,.binOp .eql t x y t',ty,pos,after,gd⟩ fr hp (B b)∧OpP P N ⟨some d,.binOp .neq t x y t',ty,pos,after,gd⟩ fr hp (B (!b)):=by
 constructor<;>intro Z w M a hr
 all_goals
  obtain⟨u1,_⟩:=hΓ t _ h1
  rw[h1'] at u1
  have hyv:a.eval y=.slice none 0 0:=by subst hy;rfl
  obtain⟨p,n,c,hq,rfl⟩:=hv Z w M a hr
  refine⟨_,?_,.d (.v _ rfl)⟩
  first
   | (simp[execOp,hyv,hq,eqGuard,(Kmm (P:=P) (w:=w) t e p n c u1).1];done)
   | (simp[execOp,hyv,hq,eqGuard,(Kmm (P:=P) (w:=w) t e p n c u1).2];done)
def isNilT{α:Type}(s:Tl α):Option Bool:=match s.2 with
 | []=>bif Nat.beq s.1 1 then some true else none
 | _ :: _=>some false
theorem Kmo(hΓ:TOK P Γ){α:Type}{enc:α→List D}{t te e:TypeId}{sz:Nat}{i1:TI}{x y:Operand}{s:Tl α}{b:Bool}(hz:isNilT s=some b)(h1:Γ t=some i1)(h1':i1.desc=.slice e)(hx:fr.ev x=some (.d (Slt te sz enc s)))(hy:y=.const (.slice none 0 0)) :
  OpP P N ⟨some d,.binOp .eql t x y t',ty,pos,after,gd⟩ fr hp (B b)∧OpP P N ⟨some d,.binOp .neq t x y t',ty,pos,after,gd⟩ fr hp (B (!b)):=
 Kmn hΓ h1 h1' hy fun Z w M a hr=>by
  have hvx:=hr.ev hx
  generalize a.eval x=vx at hvx
  obtain⟨tg,l⟩:=s
  cases hvx with
  | d hd=>cases hd with
   | rt _ _ _ _ _ _ hro hT=>
    cases l with
    | nil=>
     simp only[isNilT] at hz
     cases ht:Nat.beq tg 1 with
     | false=>rw[ht] at hz;cases hz
     | true=>
      rw[ht] at hz
      cases hz
      have:=nEq ht
      subst this
      obtain⟨p,rfl,hp⟩:=hT
      exact⟨p,_,_,rfl,by rw[hp rfl];rfl⟩
    | cons y l=>
     cases hz
     generalize hn:(y :: l).length=n at hro
     generalize hds:(y :: l).flatMap enc=ds at hro
     cases hro with
     | nil=>simp at hn
     | ro n xs b off cap vs hb hO hn' hm hc hv=>exact⟨_,_,_,rfl,rfl⟩
abbrev Vl:Type:=Nat×Nat
abbrev eV(te:TypeId)(sz:Nat)(s:Vl):List D:=[.rv te sz s.1 s.2]
abbrev fR{α:Type}(te:TypeId)(sz:Nat)(enc:α→List D)(t:Nat)(l:List α):Ar:=.row t te sz l.length (l.flatMap enc)
theorem Kmp{v:Value}{te:TypeId}{sz:Nat}(hz:v=.slice none 0 0):ZDv false (eV te sz (0,0)) v:=fun w O=>⟨_,rfl,by rw[hz];exact .rv _ _ _ _ _ ⟨rfl,rfl⟩⟩
theorem Kmq{w:World}{O:Ow}{M:Mp}{te:TypeId}{sz c n:Nat}{v:Value}(hv:VR w O M (.d (.rv te sz c n)) v):O.Rv te sz n v c:=by
 cases hv with
 | d hd=>cases hd with
  | rv _ _ _ _ _ h=>exact h
theorem Kmr{w:World}{O:Ow}{M:Mp}{te:TypeId}{sz c n:Nat}{v:Value}(hv:VR w O M (.d (.rv te sz c n)) v):∃ (p:Option Addr) (cap:Nat),v=.slice p n cap∧p.isNone=(c==0):=by
 have h:=Kmq hv
 match c,h with
 | 0,⟨e1,e2⟩=>subst e1;exact⟨none,0,e2,rfl⟩
 | c+1,⟨x,_,_,_,_,_,_,_,_,e⟩=>exact⟨_,_,e,rfl⟩
theorem Kms(hΓ:TOK P Γ){t te e:TypeId}{sz c n:Nat}{i1:TI}{x:Operand}(h1:Γ t=some i1)(h1':i1.desc=.slice e)(hx:fr.ev x=some (.d (.rv te sz c n))) :
  OpP P N ⟨some d,.call { callee:=Callee.builtin Builtin.len,args:=#[x],argTypes:=#[t] },ty,pos,after,gd⟩ fr hp (.d (.v (.int .i64 (n:Int)))):=fun Z w M a hr=>by
 obtain⟨u1,_⟩:=hΓ t _ h1
 rw[h1'] at u1
 obtain⟨p,cap,e1,_⟩:=Kmr (hr.ev hx)
 refine⟨_,?_,.d (.v _ rfl)⟩
 simp[execOp,resolve,invoke,builtin,e1,Builtin.len_,run_underlying u1];rfl
theorem Kmt(hΓ:TOK P Γ){t te e:TypeId}{sz c n:Nat}{i1 i2:TI}{x y:Operand}{kd:IntKind}{k:Int}(hk:(decide (0≤k)&&Nat.blt k.toNat n)=true)(h1:Γ t=some i1)(h1':i1.desc=.slice e)(h2:Γ e=some i2)(hx:fr.ev x=some (.d (.rv te sz c n)))
  (hy:fr.ev y=some (.d (.v (.int kd k)))) (hsz:i2.size=sz):OpP P N ⟨some d,.indexAddr t x y,ty,pos,after,gd⟩ fr hp (.d (.hd (some (k.toNat * sz)) c)):=fun Z w M a hr=>by
 obtain⟨u1,_⟩:=hΓ t _ h1
 rw[h1'] at u1
 have hs:=run_size' (P:=P) (w:=w) hΓ h2
 have hvx:=Kmq (hr.ev hx)
 simp only[Bool.and_eq_true,decide_eq_true_eq] at hk
 obtain⟨hk0,hkn⟩:=hk
 have hkn:=nblt.1 hkn
 obtain⟨i,rfl⟩:=Int.eq_ofNat_of_zero_le hk0
 simp only[Int.toNat_natCast] at hkn ⊢
 simp only[execOp,hr.ev_v hy]
 generalize a.eval x=vx at hvx
 match c,hvx with
 | 0,⟨e1,_⟩=>omega
 | c+1,⟨q,f1,f2,f3,f4,f5,f6,f7,f8,e⟩=>
  subst e
  refine⟨.pointer (some ⟨q.b,i * sz,none⟩),?_,.d (.hd _ _ _ ⟨q,f1,.inr f2,rfl⟩)⟩
  have:(0:Int)≤(i:Int)∧(i:Int)<(n:Int):=by omega
  subst hsz
  simp[Instr.indexAt,asIntOf,run_underlying u1,hs,this,Addr.add_lit,hkn]
end
theorem Kmu{P:Program}{Z:Env}{hp:List Ob}{M:Mp}{w:World}(hr:RelH Z hp M w){bg t ty sz n off:Nat}{al:List Bool}{ar ar' arn:List Ar}{lt:List (Nat×Nat)}{ds ds':List D}{x:Tg}{cs:Array Value}{vs:List Value}(hbag:hp[bg]?=some (.bag al ar lt))(hperm:ar.Perm (.row t ty sz n ds :: ar'))(hperm':arn.Perm (.row t ty sz n ds' :: ar'))
  (hx:M.h[t]?=some (some x)) (hb:w.heap[x.b]?=some (.cells cs ty (0,0))) (hfit:off+vs.length≤cs.size) (h1:∀ v∈vs,v.oneCell'=true) (hdl:ds'.length=ds.length)
  (hnew:∀ (w':World),Stp w (ownZ Z hp M) w' (ownZ Z (hp.set bg (.bag al arn lt)) M)→DataR w' (ownZ Z (hp.set bg (.bag al arn lt)) M) (setAt cs.toList off vs).toArray ds') :
  ∃ w',(storeCells ⟨x.b,off,none⟩ vs).run P w=.ok () w'∧RelH Z (hp.set bg (.bag al arn lt)) M w'∧Stp w (own hp M) w' (own (hp.set bg (.bag al arn lt)) M):=by
 obtain⟨hbm,q1,q2,q3,q4,q5,q6⟩:=hr.bag_none hbag
 have hbl:bg<hp.length:=(gEs.1 hbag).1
 have hrun:=run_storeCells_at P x.b off ty vs 0 cs w hb (by simpa using hfit) h1
 have hmem:Ar.row t ty sz n ds∈ar:=hperm.mem_iff.2 (mCs ..)
 obtain⟨hR,hnl,halr⟩:=q4 _ hmem
 have hal:al[t]?=some true:=halr rfl
 obtain⟨x0,hx0,⟨hv,hn0,hsz,hty,hpos⟩,hdl0,cs0,hb0,hcs0,hnc,hcr⟩:=hR
 rw[hx] at hx0;cases hx0
 rw[hb] at hb0;cases hb0
 have hno:¬ obOwn hp M x.b:=(hr.bags.tgs x (mOg hx)).2 (by omega)
 have hob:∀ b,obOwn (hp.set bg (.bag al arn lt)) M b ↔ obOwn hp M b:=fun b=>by
  constructor
  ·rintro⟨i,o,c,e1,e2,e3⟩
   by_cases hi:bg=i
   ·subst hi;rw[hbm] at e3;cases e3
   ·rw[gSn hi] at e1;exact⟨i,o,c,e1,e2,e3⟩
  ·rintro⟨i,o,c,e1,e2,e3⟩
   have hne:bg≠i:=fun e=>by subst e;rw[hbm] at e3;cases e3
   exact⟨i,o,c,by rw[gSn hne];exact e1,e2,e3⟩
 have hg:hasBag hp:=⟨bg,al,ar,lt,hbag⟩
 have hg':hasBag (hp.set bg (.bag al arn lt)):=⟨bg,al,arn,lt,gSs hbl⟩
 have hown:own (hp.set bg (.bag al arn lt)) M=own hp M:=Knv (fun b=>⟨fun h=>h.imp (hob b).1 fun ⟨_,h⟩=>⟨hg,h⟩,fun h=>h.imp (hob b).2 fun ⟨_,h⟩=>⟨hg',h⟩⟩) rfl ⟨fun _=>hg,fun _=>hg'⟩
 have hownZ:ownZ Z (hp.set bg (.bag al arn lt)) M=ownZ Z hp M:=by unfold ownZ;rw[hown]
 have hother:∀ k,k≠x.b→(w.setRow x.b (setAt cs.toList off vs).toArray).heap[k]?=w.heap[k]?:=fun k hk=>setRow_other w x.b k _ hk
 have hfz:∀ y:Tg,some y∈M.h→∀ k,k<y.n * y.sz→(w.setRow x.b (setAt cs.toList off vs).toArray).cell? ⟨y.b,k,none⟩=w.cell? ⟨y.b,k,none⟩:=fun y hy k hk=>by
  by_cases e:y.b=x.b
  ·obtain⟨t',ht'⟩:=List.getElem?_of_mem hy
   have:=(q3 t t' x y hal hx ht' e).1
   rw[hn0,Nat.zero_mul] at this
   omega
  ·exact World.cell?_of_block (hother _ e)
 have hst:Stp w (own hp M) (w.setRow x.b (setAt cs.toList off vs).toArray) (own (hp.set bg (.bag al arn lt)) M):=by
  refine⟨by simp,fun b _ hn=>hother b fun e=>hn (e▸.inr ⟨hg,x,mOg hx,rfl⟩),fun b _ h=>by rw[hown] at h;exact h,rfl,rfl,rfl,⟨[],by show M.h=M.h++[];simp,fun _ h=>by simp at h⟩,hfz,fun h=>absurd hg h⟩
 have hcase:∀ (i:Nat) (o:Ob),(hp.set bg (.bag al arn lt))[i]?=some o→(i≠bg∧hp[i]?=some o)∨(i=bg∧o=.bag al arn lt):=fun i o h=>by
  by_cases hi:bg=i
  ·subst hi;rw[gSs hbl] at h;cases h;exact .inr ⟨rfl,rfl⟩
  ·rw[gSn hi] at h;exact .inl ⟨Ne.symm hi,h⟩
 have hbags:∀ (i:Nat) (al1:List Bool) (ar1:List Ar) (lt1:List (Nat×Nat)),(hp.set bg (.bag al arn lt))[i]?=some (.bag al1 ar1 lt1)→i=bg∧lt1=lt:=fun i al1 ar1 lt1 h=>by
  rcases hcase i _ h with⟨h1,h2⟩ | ⟨h1,h2⟩
  ·exact absurd (hr.bags.one _ _ _ _ _ _ _ _ h2 hbag) h1
  ·cases h2;exact⟨h1,rfl⟩
 have hblk:(w.setRow x.b (setAt cs.toList off vs).toArray).heap[x.b]?=some (.cells (setAt cs.toList off vs).toArray ty (0,0)):=setRow_heap w x.b cs _ ty _ hb
 have hsize:(setAt cs.toList off vs).toArray.size=cs.size:=by simp[Kqi (show off+vs.length≤cs.toList.length by simpa using hfit)]
 have hpw:(Ar.row t ty sz n ds :: ar').Pairwise (fun a a'=>a.t≠a'.t):=(hperm.pairwise_iff fun h=>Ne.symm h).1 q5
 refine⟨_,hrun,⟨by simp[hr.len],fun i o m e1 e2=>?_,fun b hb' hz=>hr.apart b (by rw[hown] at hb';exact hb') hz,fun b hz=>by have:=hr.old b hz;simp;exact this,hr.amb_stp hst,fun i j oi oj b c c' hi hj li lj mi mj=>?_,⟨fun y hy=>⟨by have:=(hr.bags.tgs y hy).1;simp;exact this,fun hz h=>(hr.bags.tgs y hy).2 hz ((hob _).1 h)⟩,fun i j al1 al2 ar1 ar2 lt1 lt2 hi hj=>(hbags i _ _ _ hi).1.trans (hbags j _ _ _ hj).1.symm,fun i al1 ar1 lt1 hi t y hy h=>?_,hr.bags.hds⟩⟩,hst⟩
 ·rcases hcase i o e1 with⟨hi,h⟩ | ⟨rfl,rfl⟩
  ·have:=hr.obj i o m h e2
   refine this.move (k:=M.l.length) (Kob Z hst) (fun _ _=>rfl) this.bel (fun b c em hl2=>?_) fun al1 ar1 lt1 ea=>?_
   ·subst em
    exact hother b fun e=>hno (e▸⟨i,o,c,h,hl2,e2⟩)
   ·subst ea
    exact absurd (hr.bags.one _ _ _ _ _ _ _ _ h hbag) hi
  ·rw[hbm] at e2
   cases e2
   refine⟨q1,fun t' x' ha hx'=>?_,q3,fun a ha=>?_,(hperm'.pairwise_iff fun h=>Ne.symm h).2 (List.pairwise_cons.2 ⟨fun a ha=>(List.pairwise_cons.1 hpw).1 a ha,(List.pairwise_cons.1 hpw).2⟩),q6⟩
   ·obtain⟨z1,cs1,z2,z3,z4⟩:=q2 t' x' ha hx'
    by_cases e:x'.b=x.b
    ·rw[e,hb] at z2
     cases z2
     refine⟨z1,_,by rw[e];exact hblk,by rw[hsize];exact z3,z4⟩
    ·exact⟨z1,cs1,(hother _ e).trans z2,z3,z4⟩
   ·rcases List.mem_cons.1 (hperm'.mem_iff.1 ha) with rfl | ha'
    ·refine⟨⟨x,hx,⟨hv,hn0,hsz,hty,hpos⟩,by rw[hdl];exact hdl0,_,hblk,by rw[hsize];exact hcs0,hnc,hnew _ (Kob Z hst)⟩,hnl,fun _=>hal⟩
    ·have ha0:a∈ar:=hperm.mem_iff.2 (mCo _ ha')
     have hne:t≠a.t:=(List.pairwise_cons.1 hpw).1 a ha'
     refine⟨ArR.move (Kob Z hst) (q4 a ha0).1 (fun _ _ h=>h) (fun y hy=>hother _ fun e=>hne ?_),(q4 a ha0).2⟩
     cases hrow:a.isRow with
     | true=>exact((q3 t a.t x y hal hx hy e).2 ((q4 a ha0).2.2 hrow)).symm
     | false=>
      have hz:y.sz=0:=by
       have:=(q4 a ha0).1
       cases a with
       | map t agg es=>obtain⟨x',e1,e2,_⟩:=this;have hy':M.h[t]?=some (some y):=hy;rw[hy'] at e1;cases e1;exact e2
       | box t ty ds=>obtain⟨x',e1,e2,_⟩:=this;have hy':M.h[t]?=some (some y):=hy;rw[hy'] at e1;cases e1;exact e2
       | row _ _ _ _ _=>cases hrow
      exact hr.bags.hds a.t t y x hy hx hz e.symm
 ·have key:∀ (i:Nat) (o1:Ob) (c:Nat),(hp.set bg (.bag al arn lt))[i]?=some o1→o1.live=true→M.l[i]?=some (some (b,c))→hp[i]?=some o1:=fun i o1 c e1 e2 e3=>by
   rcases hcase i o1 e1 with⟨_,h⟩ | ⟨rfl,rfl⟩
   ·exact h
   ·rw[hbm] at e3;cases e3
  exact hr.inj i j oi oj b c c' (key i oi c hi li mi) (key j oj c' hj lj mj) li lj mi mj
 ·obtain⟨_,rfl⟩:=hbags i _ _ _ hi
  exact hr.bags.lnd bg al ar _ hbag t y hy ((hob _).1 h)
section
variable{P:Program}{Γ:TypeId→Option TI}{F N:Nat}{Q:GPost}{fr fr':Fr}{hp hp':List Ob}{ks:List Kt}
variable{ops:Array Oper}{rest:List Oper}{g:G}{α:Type}{enc:α→List D}
variable{d:Tmp}{op:Op}{ty t':TypeId}{pos:String}{after:Array Edge}{gd:Option (Nat×Bool)}
theorem Kmv(hΓ:TOK P Γ){t te:TypeId}{i:TI}{tx y:Operand}{off bg h t0 sz:Nat}{l:List α}{z z':α}{al:List Bool}{ar arn:List Ar}{lt:List (Nat×Nat)}{nd:List D}{new:List G}{hp2:List Ob}(j fo:Nat)(hz:l[j]?=some z)(hx:fr.ev tx=some (.d (.hd (some off) h)))(hoff:off=j * sz+fo)(hbag:hp[bg]?=some (.bag al ar lt))
  (hu:ArU ar h (fR te sz enc t0 l) (fR te sz enc t0 (l.set j z')) arn) (hi:Γ t=some i) (henc:∀ y,(enc y).length=sz) (hy:fr.ev y=some g) (hg:cellsG g=some new) (hnd:toDs new=some nd) (he:enc z'=setAt (enc z) fo nd)
  (hsz:Nat.beq new.length i.size=true) (hfit:Nat.ble (fo+nd.length) sz=true) (hhp:hp.set bg (.bag al arn lt)=hp2):OpU P N ⟨none,.store t tx y,ty,pos,after,gd⟩ fr hp hp2:=by
 subst hhp
 intro Z w M a hr
 obtain⟨rfl,_,ar',hperm,hperm'⟩:=hu
 have hlt:=(gEs.1 hz).1
 have hf:=nBe hfit
 have hfl:=Kdf henc l
 have hle:(j+1) * sz≤l.length * sz:=Nat.mul_le_mul_right _ hlt
 rw[Nat.add_mul] at hle
 have hset:=Kdi henc hz hf he
 have hfit':off+nd.length≤(l.flatMap enc).length:=by rw[hfl,hoff];omega
 have hnew:=Kae hnd
 have h1:new.all G.one=true:=by rw[hnew];simp[G.one]
 have hvy:=Kqd (hr.ev hy) hg h1
 have hnl:nd.length=new.length:=by rw[hnew];simp
 have hvd:DataR w (ownZ Z hp M) (a.eval y).cells nd:=fun j dd hj=>by
  obtain⟨v,e1,e2,e3⟩:=hvy.2 j (.d dd) (by rw[hnew,gMp,hj];rfl)
  cases e3 with
  | d h=>exact⟨v,e1,h⟩
 have hmem:fR te sz enc t0 l∈ar:=hperm.mem_iff.2 (mCs ..)
 obtain⟨_,q1,q2,q3,q4,q5,q6⟩:=hr.heap.bag_none hbag
 obtain⟨x,hx0,_,_,cs,hb,hcs,hnc,hcr⟩:=(q4 _ hmem).1
 have hvx:=hr.ev hx
 obtain⟨x',hx1,_,hev⟩:=Kmh (Nat.succ_pos _) hvx
 have hx1':M.h[t0]?=some (some x'):=hx1
 rw[hx0] at hx1'
 cases hx1'
 have hcl:(l.flatMap enc).length≤cs.size:=by rw[hfl,hcs];exact Nat.mul_le_mul_right _ hnc
 have hvl:(a.eval y).cells.toList.length=nd.length:=by simp[hvy.1,hnl]
 have hlen2:(l.set j z').length=l.length:=List.length_set
 have hperm2:arn.Perm (.row t0 te sz l.length (setAt (l.flatMap enc) off nd) :: ar'):=by
  have e:fR te sz enc t0 (l.set j z')=Ar.row t0 te sz l.length (setAt (l.flatMap enc) off nd):=by
   show Ar.row t0 te sz (l.set j z').length ((l.set j z').flatMap enc)=_
   rw[hlen2,hset,←hoff]
  rw[e] at hperm';exact hperm'
 obtain⟨w',r1,r2,r3⟩:=Kmu (P:=P) (arn:=arn) (ds:=l.flatMap enc) (ds':=setAt (l.flatMap enc) off nd) hr.heap hbag hperm hperm2 hx0 hb (off:=off) (vs:=(a.eval y).cells.toList) (by rw[hvl];omega) (fun v hv=>by
   obtain⟨j,hj⟩:=List.getElem?_of_mem hv
   have hlt:j<new.length:=by rw[←hnl,←hvl];exact(gEs.1 hj).1
   obtain⟨u,e1,e2,_⟩:=hvy.2 j _ (gGe hlt)
   have:some v=some u:=by rw[←e1,←hj];simp
   cases this;exact e2) (by rw[Kqi hfit']) (fun w' hst=>
   DataR.setAt (fun j g hj=>let ⟨v,e1,e2⟩:=hcr j g hj;⟨v,e1,e2.step hst⟩) (fun j g hj=>let ⟨v,e1,e2⟩:=hvd j g hj;⟨v,e1,e2.step hst⟩) (by rw[hvy.1,hnl]) hfit' hcl)
 refine⟨w',M,?_,r2,r3,⟨by rw[hr.heap.len];exact Nat.le_refl _,fun _ _=>rfl⟩⟩
 have hs:=run_size' (P:=P) (w:=w) hΓ hi
 have:(a.eval y).cells.size=i.size:=by rw[hvy.1];exact nEq hsz
 simp only[execOp,hev]
 simp[Instr.storeAt,Instr.sureAddr,storeVar,hs,this,r1]
end
end Go.Gk
namespace Go.Gk
def ArAt{α:Type}(f:Nat→α→Ar)(A:List (Nat×α)→List Ar):Prop:=∃ rest,∀ l,(A l).Perm (arG f l++rest)
theorem Kmw{α:Type}{f:Nat→α→Ar}:ArAt f (fun l=>arG f l):=⟨[],fun l=>by simp⟩
theorem Kmx{α:Type}{f:Nat→α→Ar}{A:List (Nat×α)→List Ar}(r:List Ar)(h:ArAt f A):ArAt f (fun l=>A l++r):=
 let ⟨rest,h⟩:=h;⟨rest++r,fun l=>by rw[←List.append_assoc];exact(h l).append_right r⟩
theorem Kmy{α:Type}{f:Nat→α→Ar}{A:List (Nat×α)→List Ar}(l0:List Ar)(h:ArAt f A):ArAt f (fun l=>l0++A l):=
 let ⟨rest,h⟩:=h;⟨l0++rest,fun l=>((h l).append_left l0).trans (by rw[←List.append_assoc,←List.append_assoc];exact List.perm_append_comm.append_right rest)⟩
def appV{α:Type}(al:List Bool)(l:List (Nat×List α))(s:Vl)(m:List α):Option (Vl×List Bool×List (Nat×List α)):=
 bif m.isEmpty then none else match s.1 with
 | 0=>bi (apd [] m) fun r=>some ((al.length+1,r.length),al++[true],(al.length,r) :: l)
 | t+1=>bi (hGet l (t+1)) fun z=>gd (Nat.beq z.length s.2) (bi (apd z m) fun r=>some ((al.length+1,r.length),al.set t false++[true],(al.length,r) :: hDel l (t+1)))
def frzV{α:Type}(al:List Bool)(l:List (Nat×List α))(s:Vl):Option (List α×List Bool×List (Nat×List α)):=match s.1 with
 | 0=>some ([],al,l)
 | t+1=>bi (hGet l (t+1)) fun z=>gd (Nat.beq z.length s.2) (some (z,al.set t false++[true],hDel l (t+1)))
theorem Kmz{α:Type}{al al':List Bool}{l l':List (Nat×List α)}{s r:Vl}{m:List α}(h:appV al l s m=some (r,al',l')):m≠[]∧∃ z l0 al0,apd z m=some (z++m)∧r=(al.length+1,(z++m).length)∧al'=al0++[true]∧l'=(al.length,z++m) :: l0∧
  ((s.1=0∧z=[]∧l0=l∧al0=al)∨∃ t,s.1=t+1∧hGet l (t+1)=some z∧z.length=s.2∧l0=hDel l (t+1)∧al0=al.set t false):=by
 unfold appV at h
 cases m with
 | nil=>cases h
 | cons y m=>
  simp only[List.isEmpty_cons,cond_false] at h
  refine⟨by simp,?_⟩
  obtain⟨c,n⟩:=s
  match c,h with
  | 0,h=>
   obtain⟨r0,hr,h⟩:=Kcp h
   obtain⟨rfl,_⟩:=Kcu hr
   simp only[Option.some.injEq,Prod.mk.injEq] at h
   exact⟨[],l,al,hr,h.1.symm,h.2.1.symm,h.2.2.symm,.inl ⟨rfl,rfl,rfl,rfl⟩⟩
  | t+1,h=>
   obtain⟨z,hz,h⟩:=Kcp h
   obtain⟨hl,h⟩:=Kcq h
   obtain⟨r0,hr,h⟩:=Kcp h
   obtain⟨rfl,_⟩:=Kcu hr
   simp only[Option.some.injEq,Prod.mk.injEq] at h
   exact⟨z,hDel l (t+1),al.set t false,hr,h.1.symm,h.2.1.symm,h.2.2.symm,.inr ⟨t,rfl,hz,nEq hl,rfl,rfl⟩⟩
theorem Kna{Z:Env}{hp:List Ob}{M:Mp}{w:World}(hr:RelH Z hp M w){bg t ty sz n:Nat}{al:List Bool}{ar ar0:List Ar}{lt:List (Nat×Nat)}{ds:List D}(hbag:hp[bg]?=some (.bag al ar lt))(hperm:ar.Perm (.row t ty sz n ds :: ar0)) :
  ∃ (x:Tg) (cs:Array Value),M.h[t]?=some (some x)∧x.v=true∧x.n=0∧x.sz=sz∧x.t=ty∧0<sz∧ds.length=n * sz∧w.heap[x.b]?=some (.cells cs ty (0,0))∧cs.size=x.c * sz∧n≤x.c∧x.c≤maxLen∧DataR w (ownZ Z hp M) cs ds∧al[t]?=some true∧al.length=M.h.length∧¬ obOwn hp M x.b∧own hp M x.b∧x.b<w.heap.size∧
   (∀ y:Tg,some y∈M.h→y.b=x.b→0<y.sz∧y.n * y.sz=0)∧(∀ (t':Nat) (y:Tg),al[t']?=some true→M.h[t']?=some (some y)→y.b=x.b→t'=t)∧
   ((∀ a∈ar0,a∈ar)∧ar0.Pairwise (fun a a'=>a.t≠a'.t)∧∀ a∈ar0,a.isRow=true→(al.set t false)[a.t]?=some true):=by
 obtain⟨hbm,q1,q2,q3,q4,q5,q6⟩:=hr.bag_none hbag
 have hmem:Ar.row t ty sz n ds∈ar:=hperm.mem_iff.2 (mCs ..)
 obtain⟨⟨x,hx,⟨hv,hn0,hsz,hty,hpos⟩,hdl,cs,hb,hcs,hnc,hcr⟩,hnl,halr⟩:=q4 _ hmem
 have hal:al[t]?=some true:=halr rfl
 have hm:=mOg hx
 have hpw:(Ar.row t ty sz n ds :: ar0).Pairwise (fun a a'=>a.t≠a'.t):=(hperm.pairwise_iff fun h=>Ne.symm h).1 q5
 obtain⟨_,_,_,_,_,hcm⟩:=q2 t x hal hx
 refine⟨x,cs,hx,hv,hn0,hsz,hty,hpos,hdl,hb,hcs,hnc,hcm,hcr,hal,q1,(hr.bags.tgs x hm).2 (by omega),.inr ⟨⟨bg,al,ar,lt,hbag⟩,x,hm,rfl⟩,(hr.bags.tgs x hm).1,fun y hy e=>?_,fun t' y ha hy e=>(q3 t t' x y hal hx hy e).2 ha,fun a ha=>hperm.mem_iff.2 (mCo _ ha),(List.pairwise_cons.1 hpw).2,fun a ha hrow=>?_⟩
 ·obtain⟨t',ht'⟩:=List.getElem?_of_mem hy
  have hle:=(q3 t t' x y hal hx ht' e).1
  rw[hn0,Nat.zero_mul] at hle
  refine⟨Nat.pos_of_ne_zero fun e0=>?_,by omega⟩
  have:=hr.bags.hds t' t y x ht' hx e0 e.symm
  subst this
  rw[hx] at ht'
  cases ht'
  omega
 ·have hne:t≠a.t:=(List.pairwise_cons.1 hpw).1 a ha
  rw[gSn hne]
  exact(q4 a (hperm.mem_iff.2 (mCo _ ha))).2.2 hrow
theorem Knb{α:Type}{te:TypeId}{sz:Nat}{enc:α→List D}{l:List (Nat×List α)}{t:Nat}{z:List α}(h:hGet l (t+1)=some z):(arG (fR te sz enc) l).Perm (.row t te sz z.length (z.flatMap enc) :: arG (fR te sz enc) (hDel l (t+1))):=
 (Kkp (f:=fR te sz enc) (fun _ _=>rfl) h).2
section
variable{P:Program}{Γ:TypeId→Option TI}{F N:Nat}{Q:GPost}{fr fr':Fr}{hp hp':List Ob}{ks:List Kt}
variable{ops:Array Oper}{rest:List Oper}{g:G}{α:Type}{enc:α→List D}
variable{d:Tmp}{op:Op}{ty t':TypeId}{pos:String}{after:Array Edge}{gd:Option (Nat×Bool)}
theorem Knc(hΓ:TOK P Γ){t te:TypeId}{i1 i2:TI}{x y:Operand}{bg:Nat}{s r:Vl}{m:List α}{al al':List Bool}{l l':List (Nat×List α)}{lt:List (Nat×Nat)}{hp2:List Ob}(A:List (Nat×List α)→List Ar)(hz:appV al l s m=some (r,al',l'))(hA:ArAt (fR te i2.size enc) A)(h1:Γ t=some i1)(h1':i1.desc=.slice te)(h2:Γ te=some i2)
  (hzc:Nat.beq i2.zero.cells.size i2.size=true) (hz0:Nat.blt 0 i2.size=true) (hx:fr.ev x=some (.d (.rv te i2.size s.1 s.2))) (hy:fr.ev y=some (.d (Sl enc m))) (hbag:hp[bg]?=some (.bag al (A l) lt)) (henc:∀ y,(enc y).length=i2.size) (hbytes:Nat.ble (4294967296 * i2.bytes) 140737488355328=true) (hhp:hp.set bg (.bag al' (A l') lt)=hp2) :
  OpS P N ⟨some d,.call ⟨.builtin .append,#[x,y],#[t,t]⟩,ty,pos,after,gd⟩ fr hp (.d (.rv te i2.size r.1 r.2)) hp2:=by
 subst hhp
 intro Z w M a hr
 obtain⟨u1,_⟩:=hΓ t _ h1
 rw[h1'] at u1
 obtain⟨_,inf,e1,e2,e3,e4⟩:=hΓ te _ h2
 have hzs:i2.zero.cells.size=inf.size:=by rw[e2];exact nEq hzc
 have hpos:0<i2.size:=nblt.1 hz0
 obtain⟨hmne,z,l0,al0,hap,rfl,rfl,rfl,hcase⟩:=Kmz hz
 obtain⟨_,hle⟩:=Kcu hap
 have hm0:0<m.length:=List.length_pos_iff.2 hmne
 have hvx:=Kmq (hr.ev hx)
 have hvy:=hr.ev hy
 have hb:=nBe hbytes
 have hmul:(z.length+m.length) * i2.bytes≤4294967296 * i2.bytes:=Nat.mul_le_mul_right _ hle
 generalize hvvx:a.eval x=vx at hvx
 generalize hvvy:a.eval y=vy at hvy
 have hbl:bg<hp.length:=(gEs.1 hbag).1
 obtain⟨hbm,q1,q2,q3,q4,q5,q6⟩:=hr.heap.bag_none hbag
 obtain⟨rest,hA⟩:=hA
 cases hvy with
 | d hvy=>
 have hyl:=Kdf henc m
 obtain⟨xb,xo,xc,news,rfl,hnl,hnc,hnv,hn1⟩:∃ (b off cap:Nat) (vs:List Value),vy=.slice (some ⟨b,off,none⟩) m.length cap∧vs.length=(m.flatMap enc).length∧(∀ (j:Nat) (u:Value),vs[j]?=some u→w.cell? ⟨b,off+j,none⟩=some u)∧(∀ (j:Nat) (u:Value) (d:D),vs[j]?=some u→(m.flatMap enc)[j]?=some d→VD w (ownZ Z hp M) d u)∧∀ u∈vs,u.oneCell'=true:=by
  rcases Kab hvy with⟨_,hl0,_⟩ | h
  ·omega
  ·exact h
 obtain⟨x0,hrow,hold⟩:∃ x0:Option Tg,(((∀ a∈arG (fR te i2.size enc) l0++rest,a∈A l)∧(arG (fR te i2.size enc) l0++rest).Pairwise (fun a a'=>a.t≠a'.t)∧∀ a∈arG (fR te i2.size enc) l0++rest,a.isRow=true→al0[a.t]?=some true)∧al0.length=al.length∧(∀ t:Nat,al0[t]?=some true→al[t]?=some true))∧
   ∃ cs0:Array Value,DataR w (ownZ Z hp M) cs0 (z.flatMap enc)∧(((x0=none∧vx=.slice none 0 0∧z.length=0))∨∃ (x1:Tg) (tt:Nat),x0=some x1∧vx=.slice (some ⟨x1.b,0,none⟩) z.length x1.c∧w.heap[x1.b]?=some (.cells cs0 te (0,0))∧cs0.size=x1.c * inf.size∧z.length≤x1.c∧x1.c≤maxLen∧some x1∈M.h∧¬ obOwn hp M x1.b∧own hp M x1.b∧
    (∀ y:Tg,some y∈M.h→y.b=x1.b→0<y.sz∧y.n * y.sz=0)∧(∀ (t':Nat) (y:Tg),al[t']?=some true→M.h[t']?=some (some y)→y.b=x1.b→t'=tt)∧al0=al.set tt false):=by
  rcases hcase with⟨hs,rfl,rfl,rfl⟩ | ⟨tt,hs,hg,hzl,rfl,rfl⟩
  ·rw[hs] at hvx
   obtain⟨_,rfl⟩:=hvx
   refine⟨none,⟨⟨fun a ha=>(hA l0).mem_iff.2 ha,((hA l0).pairwise_iff fun h=>Ne.symm h).1 q5,fun a ha=>(q4 a ((hA l0).mem_iff.2 ha)).2.2⟩,rfl,fun _ h=>h⟩,#[],fun j d hj=>by simp at hj,.inl ⟨rfl,rfl,rfl⟩⟩
  ·rw[hs] at hvx
   have hp1:=(hA l).trans ((Knb (te:=te) (sz:=i2.size) (enc:=enc) hg).append_right rest)
   obtain⟨x1,cs,k1,k2,k3,k4,k5,k6,k7,k8,k9,k10,k11,k12,k13,k14,k15,k16,k17,k18,k19,k20⟩:=Kna hr.heap hbag hp1
   obtain⟨x2,f1,f2,f3,f4,f5,f6,f7,f8,rfl⟩:=hvx
   have f1':M.h[tt]?=some (some x2):=f1
   rw[k1] at f1'
   cases f1'
   refine⟨some x1,⟨k20,by simp,fun t' ht'=>?_⟩,cs,k12,.inr ⟨x1,tt,rfl,by rw[hzl],k8,by rw[k9,e2],k10,k11,mOg k1,k15,k16,k18,k19,rfl⟩⟩
   by_cases hq:tt=t'
   ·subst hq
    rw[gSs (gEs.1 k13).1] at ht'
    cases ht'
   ·rw[gSn hq] at ht';exact ht'
 obtain⟨hsub,hlen,hal⟩:=hrow
 obtain⟨cs0,hdr,hcs⟩:=hold
 obtain⟨v',w',mo',hrun,g1,g2,g3,g4,hres⟩:=Kac (P:=P) (tyo:=ty) (n:=z.length) (m:=m.length) (cs0:=cs0) (sv:=vx) (x0.map fun x=>(x.b,x.c)) u1 e1 e4 hzs (by rw[e2];exact hpos)
  (by
   rcases hcs with⟨rfl,rfl,h⟩ | ⟨x1,tt,rfl,rfl,c1,c2,c3,c4,_⟩
   ·exact .inl ⟨rfl,rfl,h⟩
   ·exact .inr ⟨x1.b,x1.c,rfl,rfl,c1,c2,c3,c4⟩) (.inr ⟨xb,xo,xc,rfl,hnc⟩) (by rw[hnl,hyl,e2]) hn1 (by simp only[maxLen];omega) (by rw[e3];omega)
 rcases hres with⟨_,_,r3,_⟩ | ⟨b',c',cur,r1,r2,r3,r4,r5,r6,r7,r8,r9,r10⟩
 ·omega
 have hzlen:=Kdf henc z
 have hinp:b'<w.heap.size→∃ (x1:Tg) (tt:Nat),x1.b=b'∧some x1∈M.h∧¬ obOwn hp M x1.b∧own hp M x1.b∧(∀ y:Tg,some y∈M.h→y.b=x1.b→0<y.sz∧y.n * y.sz=0)∧(∀ (t':Nat) (y:Tg),al[t']?=some true→M.h[t']?=some (some y)→y.b=x1.b→t'=tt)∧al0=al.set tt false:=fun hlt=>by
  rcases r10 with⟨c,hc⟩ | h
  ·rcases hcs with⟨rfl,_⟩ | ⟨x1,tt,rfl,_,_,_,_,_,k1,k2,k3,k4,k5,k6⟩
   ·cases hc
   ·cases hc;exact⟨x1,tt,rfl,k1,k2,k3,k4,k5,k6⟩
  ·omega
 have hbw:b'<w'.heap.size:=(aEs.1 r3).1
 have hob1:∀ b,obOwn (hp.set bg (.bag (al0++[true]) (.row al.length te i2.size (z++m).length ((z++m).flatMap enc) :: (arG (fR te i2.size enc) l0++rest)) lt)) M b→obOwn hp M b:=by
  rintro b ⟨i,o,c,f1,f2,f3⟩
  by_cases hi:bg=i
  ·subst hi;rw[hbm] at f3;cases f3
  ·rw[gSn hi] at f1;exact⟨i,o,c,f1,f2,f3⟩
 have hdn:∀ (w2:World) (O2:Ow),Stp w (ownZ Z hp M) w2 O2→DataR w2 O2 cur ((z++m).flatMap enc):=fun w2 O2 hst j dd hj=>by
  rw[List.flatMap_append] at hj
  by_cases hjz:j<(z.flatMap enc).length
  ·rw[gAl hjz] at hj
   obtain⟨u,f1,f2⟩:=hdr j dd hj
   have hne:x0.map (fun x=>(x.b,x.c))≠none:=fun e=>by
    rcases hcs with⟨rfl,_,h⟩ | ⟨x1,tt,rfl,_⟩
    ·rw[hzlen,h] at hjz;omega
    ·cases e
   exact⟨u,by rw[r7 j (by rw[e2,←hzlen];exact hjz) hne];exact f1,f2.step hst⟩
  ·rw[gAr (by omega)] at hj
   have hlt:j - (z.flatMap enc).length<news.length:=by rw[hnl];exact(gEs.1 hj).1
   have hn:=gGe hlt
   refine⟨_,?_,(hnv _ _ dd hn hj).step hst⟩
   have:=r8 _ _ hn
   rw[e2,←hzlen] at this
   rw[←this]
   congr 1
   omega
 obtain⟨t1,t2,t3⟩:=Kjh (hp1:=hp.set bg (.bag (al0++[true]) (.row al.length te i2.size (z++m).length ((z++m).flatMap enc) :: (arG (fR te i2.size enc) l0++rest)) lt)) (al0:=al0) true (some ⟨b',0,c',i2.size,te,true⟩) hr.heap hbag (by simp) (fun i o hi=>by
   by_cases hib:bg=i
   ·subst hib;rw[gSs hbl] at hi;cases hi;exact .inr (.inr ⟨rfl,rfl⟩)
   ·rw[gSn hib] at hi;exact .inr (.inl ⟨Ne.symm hib,hi⟩)) (gSs hbl) g1 g2 g3 g4 (fun k hk hne=>r9 k hk (hne _ rfl)) hlen hal (fun y hy=>by
   cases hy
   refine⟨fun _=>⟨hpos,cur,r3,by rw[r4,e2],Nat.zero_le _,r6⟩,hbw,fun hlt=>?_,fun ho=>?_,fun x hx hxb=>?_,fun t' x ht hx hxb=>?_⟩
   ·obtain⟨x1,tt,k1,_,_,k4,_⟩:=hinp hlt
    rw[←k1];exact k4
   ·have ho':obOwn hp M b':=hob1 _ ho
    obtain⟨x1,tt,k1,_,k3,_⟩:=hinp (hr.heap.block_ob ho')
    rw[k1] at k3;exact k3 ho'
   ·have hxb':x.b=b':=hxb
    obtain⟨x1,tt,k1,_,_,_,k5,_⟩:=hinp (hxb'▸(hr.heap.bags.tgs x hx).1)
    obtain⟨z1,z2⟩:=k5 x hx (hxb'.trans k1.symm)
    exact⟨z1,hpos,by omega,fun k hk=>by omega⟩
   ·have hxb':x.b=b':=hxb
    obtain⟨x1,tt,k1,_,_,_,_,k6,k7⟩:=hinp (hxb'▸(hr.heap.bags.tgs x (mOg hx)).1)
    have:=k6 t' x (hal t' ht) hx (hxb'.trans k1.symm)
    subst this
    rw[k7] at ht
    have hl:=(gEs.1 ht).1
    rw[gSs (by simpa using hl)] at ht
    cases ht) (arG (fR te i2.size enc) l0++rest) hsub (.inr ⟨_,rfl,rfl,fun hst=>by
   refine⟨⟨b',0,c',i2.size,te,true⟩,?_,⟨rfl,rfl,rfl,rfl,hpos⟩,by rw[Kdf henc],cur,r3,by rw[r4,e2],by simpa using r5,hdn _ _ (Kob Z hst)⟩
   show(M.h++[_])[al.length]?=_
   rw[q1]
   simp,fun _=>rfl⟩)
 have hperm:(A ((al.length,z++m) :: l0)).Perm (.row al.length te i2.size (z++m).length ((z++m).flatMap enc) :: (arG (fR te i2.size enc) l0++rest)):=hA _
 obtain⟨s1,s2⟩:=t1.reperm (gSs hbl) hperm
 rw[List.set_set] at s1 s2
 refine⟨v',w',_,by simp[execOp,resolve,invoke,builtin,hvvx,hvvy,hrun],s1,.d (.rv _ _ _ _ _ ⟨⟨b',0,c',i2.size,te,true⟩,?_,rfl,rfl,rfl,rfl,by simp;omega,by simpa using r5,r6,by rw[r2];simp⟩),by rw[s2];exact t2,t3⟩
 show(M.h++[_])[al.length]?=_
 rw[q1]
 simp
theorem Knd{te:TypeId}{sz id bg:Nat}{xs:List α}{al:List Bool}{ar arn:List Ar}{lt:List (Nat×Nat)}{hp2:List Ob}(t:Nat)(hz:0<sz)(hn:0<xs.length)(ht:fr.get t=some (.sl id xs.length))(ho:hp[id]?=some (.row te sz xs.length (xs.flatMap enc)))(hbag:hp[bg]?=some (.bag al ar lt))(hperm:arn.Perm (fR te sz enc al.length xs :: ar))(h2:(hp.set id .dead).set bg (.bag (al++[true]) arn lt)=hp2)
  (hsl:hp.all Ob.sole=true):∀ Z w M a,Rel Z hp M w fr a N→∃ M',Rel Z hp2 M' w ((t,.d (.rv te sz (al.length+1) xs.length)) :: fr) a N∧Stp w (own hp M) w (own hp2 M')∧Agr hp.length M M':=by
 subst h2
 have hid:id<hp.length:=(gEs.1 ho).1
 have hbl:bg<hp.length:=(gEs.1 hbag).1
 have hgp:=Kkk (N:=N) (fr:=(t,.d (.rv te sz (al.length+1) xs.length)) :: fr) (hp:=(hp.set id .dead).set bg (.bag (al++[true]) (fR te sz enc al.length xs :: ar) lt)) (bg:=bg) (arn:=arn) (gSs (by simpa using hbl)) hperm
 rw[List.set_set] at hgp
 refine Kkl (by simp) ?_ hgp
 intro Z w M a hr
 have hne:id≠bg:=fun e=>by subst e;rw[ho] at hbag;cases hbag
 have hcase:∀ (i:Nat) (o:Ob),((hp.set id .dead).set bg (.bag (al++[true]) (fR te sz enc al.length xs :: ar) lt))[i]?=some o→o=.dead∨(i≠bg∧hp[i]?=some o)∨(i=bg∧o=.bag (al++[true]) (fR te sz enc al.length xs :: ar) lt):=fun i o h=>by
  by_cases hi:bg=i
  ·subst hi;rw[gSs (by simpa using hbl)] at h;cases h;exact .inr (.inr ⟨rfl,rfl⟩)
  ·rw[gSn hi] at h
   by_cases hi2:id=i
   ·subst hi2;rw[gSs hid] at h;cases h;exact .inl rfl
   ·rw[gSn hi2] at h;exact .inr (.inl ⟨Ne.symm hi,h⟩)
 have hid1:((hp.set id .dead).set bg (.bag (al++[true]) (fR te sz enc al.length xs :: ar) lt))[id]?=some .dead:=by rw[gSn (Ne.symm hne),gSs hid]
 have hlen:al.length=M.h.length:=(hr.heap.bag_none hbag).2.1
 obtain⟨v,hv,hvr⟩:=hr.fr t _ ht
 generalize hnn:xs.length=n at hvr
 cases hvr with
 | slnil hM=>omega
 | sl hM hnc' hm=>
  subst hnn
  rename_i b c
  obtain⟨hdl,cs,hb,hcs,hnc,hcm,hcr⟩:=hr.heap.obj id _ _ ho hM
  have hob:obOwn hp M b:=⟨id,_,c,ho,rfl,hM⟩
  have hget:(M.h++[some (⟨b,0,c,sz,te,true⟩:Tg)])[al.length]?=some (some ⟨b,0,c,sz,te,true⟩):=by rw[hlen];simp
  obtain⟨r1,r2,r3⟩:=Kjh (hp1:=(hp.set id .dead).set bg (.bag (al++[true]) (fR te sz enc al.length xs :: ar) lt)) (al0:=al) (w':=w) true (some ⟨b,0,c,sz,te,true⟩) hr.heap hbag (by simp) hcase (gSs (by simpa using hbl)) (Nat.le_refl _) rfl rfl rfl (fun _ _ _=>rfl) rfl (fun _ h=>h) (fun y h=>by
   cases h
   have hsl0:∀ x:Tg,some x∈M.h→x.b≠b:=fun x hx e=>hr.heap.sole hsl ⟨bg,al,ar,lt,hbag⟩ hx (e▸hob)
   refine⟨fun _=>⟨hz,cs,hb,hcs,Nat.zero_le _,hcm⟩,(aEs.1 hb).1,fun _=>.inl hob,?_,fun x hx (e:x.b=b)=>absurd e (hsl0 x hx),fun t x _ hx (e:x.b=b)=>absurd e (hsl0 x (mOg hx))⟩
   rintro⟨i,o,c',e1,e2,e3⟩
   rcases hcase i o e1 with rfl | ⟨_,e⟩ | ⟨rfl,rfl⟩
   ·cases e2
   ·have hii:=hr.heap.inj i id o _ b c' c e ho e2 rfl e3 hM
    subst hii
    rw[hid1] at e1
    cases e1;cases e2
   ·have:=hr.heap.obj _ _ _ hbag e3
    exact this) ar (Kjf hr.heap hbag) (.inr ⟨_,rfl,rfl,fun hst=>⟨⟨b,0,c,sz,te,true⟩,hget,⟨rfl,rfl,rfl,rfl,hz⟩,hdl,cs,hb,hcs,hnc,fun j d hj=>let ⟨u,e1,e2⟩:=hcr j d hj;⟨u,e1,e2.step (Kob Z hst)⟩⟩,fun _=>rfl⟩)
  refine⟨_,⟨r1,fun t' g h=>?_,hr.size,hr.defers⟩,r2,r3⟩
  simp only[Fr.get] at h
  cases hk:Nat.beq t t' with
  | true=>
   rw[hk] at h
   have:=nEq hk
   subst this
   cases h
   exact⟨_,hv,.d (.rv _ _ _ _ _ ⟨⟨b,0,c,sz,te,true⟩,hget,rfl,rfl,rfl,rfl,hn,hnc,hcm,rfl⟩)⟩
  | false=>
   rw[hk] at h
   obtain⟨u,h1,h2⟩:=hr.fr t' g h
   exact⟨u,h1,VR.step (M:=M) (M':=⟨M.l,M.h++[_]⟩) (Kob Z r2) (fun _ _=>rfl) h2⟩
end
def mDel{K V:Type}[BEq K](m:List (K×V))(k:K):List (K×V):=match m.findIdx? fun e=>k==e.1 with
 | some i=>m.eraseIdx i
 | none=>m
theorem Kne{α:Type}{l:List α}{i j:Nat}:(l.eraseIdx i)[j]?=if j<i then l[j]? else l[j+1]?:=by rw[List.getElem?_eraseIdx]
section
variable{P:Program}{Γ:TypeId→Option TI}{F N:Nat}{Q:GPost}{fr fr':Fr}{hp hp':List Ob}
variable{d:Option Tmp}{op:Op}{ty t':TypeId}{pos:String}{after:Array Edge}{gd:Option (Nat×Bool)}
variable{K V:Type}[BEq K][KLt K]{kv:K→Value}{agg:Bool}{enc:V→List D}
theorem Knf(hΓ:TOK P Γ){t kt et:TypeId}{tk:TypeId}{i1 i2:TI}{x y:Operand}{id:Nat}{hp2:List Ob}(m:List (K×V))(k:K)(h1:Γ t=some i1)(h1':i1.desc=.map kt et)(h2:Γ kt=some i2)(hK:KeyOk i2.desc kv)
  (hx:fr.ev x=some (.map id)) (ho:hp[id]?=some (mOb kv agg enc m)) (hy:fr.ev y=some (.d (.v (kv k)))) (hhp:hp.set id (mOb kv agg enc (mDel m k))=hp2) :
  OpS P N ⟨d,.call { callee:=Callee.builtin Builtin.delete,args:=#[x,y],argTypes:=#[t,tk] },ty,pos,after,gd⟩ fr hp (.tup []) hp2:=fun Z w M a hr=>by
 subst hhp
 obtain⟨u1,_⟩:=hΓ t _ h1
 rw[h1'] at u1
 obtain⟨u2,_⟩:=hΓ kt _ h2
 have hvx:=hr.ev hx
 have hyv:=hr.ev_v hy
 generalize hvv:a.eval x=vx at hvx
 cases hvx with
 | map hM=>
  rename_i b c
  obtain⟨m',ms,cl,hA⟩:=Khy hr.heap ho hM
  have m1:=hA.heap
  have m2:=hA.size
  have m3:=hA.born
  have m4:=hA.get
  have hf:=MapKept.run_findKey (P:=P) (w:=w) u2 (hA.find hK k)
  have hc:=MapKept.run_checkKey (P:=P) (w:=w) u2 (hK.key k) ms.isEmpty 9999
  cases hi:m'.findIdx? fun e=>k==e.1 with
  | none=>
   rw[hi] at hf
   simp only[Option.bind_none] at hf
   have hdel:mDel m k=m:=by unfold mDel;rw[Kid hA.perm k hi]
   rw[hdel]
   obtain⟨r1,r2⟩:=Khv (o':=mOb kv agg enc m) (ob':=.map ms cl) hr.heap ho rfl hM (fun w' hst hh=>by
    refine⟨_,_,m'.map fun e=>(kv e.1,enc e.2),hh,hA.perm.map _,?_,fun raw h=>(by cases h),by simp[m2],m3,fun j k' ds hj=>?_⟩
    ·rw[List.pairwise_map];exact hA.apart
    ·rw[gMp] at hj
     obtain⟨x,hx,he⟩:=oMs.1 hj
     simp only[Prod.mk.injEq] at he
     obtain⟨rfl,rfl⟩:=he
     obtain⟨e,e1,e2,e3⟩:=m4 j x hx
     exact⟨e,e1,e2,e3.step hst⟩) rfl
   refine⟨.tuple #[],_,M,?_,r1,.tup rfl (fun j g v h=>by simp at h),r2,⟨Nat.le_of_eq hr.heap.len.symm,fun _ _=>rfl⟩⟩
   simp[execOp,resolve,invoke,builtin,hvv,hyv,Builtin.delete_,run_underlying u1,MapKept.run_getObj_map m1,hc,hf,MapKept.run_setObj_map _ m1]
  | some j=>
   rw[hi] at hf
   have hj:j<m'.length:=(lFi.1 hi).1
   have hkj:(k==(m'[j]).1)=true:=(lFi.1 hi).2.1
   have hkj':=hK.eq _ _ hkj
   obtain⟨e,f1,f2,f3⟩:=m4 j _ (gGe hj)
   simp only[Option.bind_some,f1,Option.map_some] at hf
   obtain⟨i,hi2⟩:∃ i,(m.findIdx? fun e=>k==e.1)=some i:=by
    cases h0:m.findIdx? fun e=>k==e.1 with
    | some i=>exact⟨i,rfl⟩
    | none=>rw[Kid hA.perm.symm k h0] at hi;cases hi
   have hil:i<m.length:=(lFi.1 hi2).1
   have hki:=hK.eq _ _ (lFi.1 hi2).2.1
   have hdel:mDel m k=m.eraseIdx i:=by unfold mDel;rw[hi2]
   have hsame:m'[j]=m[i]:=hA.apart.one (List.getElem_mem hj) (hA.perm.mem_iff.2 (List.getElem_mem hil)) (by rw[←hkj',←hki])
   have hperm:(m'.eraseIdx j).Perm (m.eraseIdx i):=by
    obtain⟨_,a2⟩:=Kic (k,(m[i]).2) (gGe hj)
    obtain⟨_,b2⟩:=Kic (k,(m[i]).2) (gGe hil)
    rw[hsame] at a2
    exact((a2.symm.trans hA.perm).trans b2).cons_inv
   rw[hdel]
   have hjs:=(aEs.1 f1).1
   have hel:∀ (n:Nat),(ms.eraseIdxIfInBounds j)[n]?=(ms.toList.eraseIdx j)[n]?:=fun n=>by
    rw[←Array.getElem?_toList];congr 1
    simp[Array.eraseIdxIfInBounds,hjs]
   have hidx:∀ (n:Nat) (e':MapEntry),(ms.eraseIdxIfInBounds j)[n]?=some e'→ms[if n<j then n else n+1]?=some e':=fun n e' h=>by
    rw[hel,Kne] at h
    split at h<;>(rename_i hn;simp only[hn,if_true,if_false];rw[←Array.getElem?_toList];exact h)
   have hsz:(ms.eraseIdxIfInBounds j).size=m'.length - 1:=by rw[←m2];simp[Array.eraseIdxIfInBounds,hjs]
   obtain⟨r1,r2⟩:=Khv (o':=mOb kv agg enc (m.eraseIdx i)) (ob':=.map (ms.eraseIdxIfInBounds j) cl) hr.heap ho rfl hM (fun w' hst hh=>by
    refine⟨_,_,(m'.eraseIdx j).map fun e=>(kv e.1,enc e.2),hh,hperm.map _,?_,fun raw h=>(by cases h),?_,⟨fun n n' e1 e2 h1 h2 hb=>?_,fun n e1 h1=>m3.2 _ _ (hidx n e1 h1)⟩,fun n k' ds h=>?_⟩
    ·rw[List.pairwise_map]
     exact hA.apart.sublist (List.eraseIdx_sublist ..)
    ·rw[hsz,List.length_map,List.length_eraseIdx_of_lt hj]
    ·have:=m3.1 _ _ e1 e2 (hidx n e1 h1) (hidx n' e2 h2) hb
     split at this<;>split at this<;>omega
    ·rw[gMp] at h
     obtain⟨x,hx,he⟩:=oMs.1 h
     simp only[Prod.mk.injEq] at he
     obtain⟨rfl,rfl⟩:=he
     rw[Kne] at hx
     have hx':m'[if n<j then n else n+1]?=some x:=by split at hx<;>(rename_i hn;simp only[hn,if_true,if_false];exact hx)
     obtain⟨e1,g1,g2,g3⟩:=m4 _ x hx'
     refine⟨e1,?_,g2,g3.step hst⟩
     rw[hel,Kne]
     rw[←Array.getElem?_toList] at g1
     split at g1<;>(rename_i hn;simp only[hn,if_true,if_false];exact g1)) rfl
   refine⟨.tuple #[],_,M,?_,r1,.tup rfl (fun j g v h=>by simp at h),r2,⟨Nat.le_of_eq hr.heap.len.symm,fun _ _=>rfl⟩⟩
   simp[execOp,resolve,invoke,builtin,hvv,hyv,Builtin.delete_,run_underlying u1,MapKept.run_getObj_map m1,hc,hf,MapKept.run_setObj_map _ m1]
end
end Go.Gk
namespace Go.Gk
section
variable{K V:Type}[BEq K][KLt K]
def bornOf(mr:List (K×V))(bs:List Nat)(cl:Nat)(k:K):Nat:=match mr.findIdx? fun e=>k==e.1 with
 | some i=>bs.getD i 0
 | none=>cl
def entR(mr:List (K×V))(k:K)(z:V):List (K×V):=match mr.findIdx? fun e=>k==e.1 with
 | some _=>mr
 | none=>mr++[(k,z)]
def entB(mr:List (K×V))(bs:List Nat)(cl:Nat)(k:K):List Nat:=match mr.findIdx? fun e=>k==e.1 with
 | some _=>bs
 | none=>bs++[cl]
def entC(mr:List (K×V))(cl:Nat)(k:K):Nat:=match mr.findIdx? fun e=>k==e.1 with
 | some _=>cl
 | none=>cl+1
def mEnt(m:List (K×V))(k:K)(z:V):List (K×V):=match m.findIdx? fun e=>k==e.1 with
 | some _=>m
 | none=>mIns k z m
theorem Kng{kv:K→Value}{enc:V→List D}{dd:TypeDesc}(hK:KeyOk dd kv)(k:K):∀ {a b:List (K×V)},a.map (fun e=>(kv e.1,enc e.2))=b.map (fun e=>(kv e.1,enc e.2))→(a.findIdx? fun e=>k==e.1)=b.findIdx? fun e=>k==e.1
 | [],[],_=>rfl
 | [],_ :: _,h=>by simp at h
 | _ :: _,[],h=>by simp at h
 | x :: a,y :: b,h=>by
  simp only[List.map_cons,List.cons.injEq,Prod.mk.injEq] at h
  have ih:=Kng hK k h.2
  have e:(k==x.1)=(k==y.1):=by
   have h1:=hK.same k x.1
   rw[h.1.1,hK.same k y.1] at h1
   exact(oSi h1).symm
  rw[List.findIdx?_cons,List.findIdx?_cons,e,ih]
end
section
variable{P:Program}{Γ:TypeId→Option TI}{F N:Nat}{Q:GPost}{fr fr':Fr}{hp hp':List Ob}{ks:List Kt}
variable{d:Tmp}{op:Op}{ty t':TypeId}{pos:String}{after:Array Edge}{gd:Option (Nat×Bool)}
variable{K V:Type}[BEq K][KLt K]{kv:K→Value}{agg:Bool}{enc:V→List D}
theorem Knh{c:Code}{id:Nat}(m:List (K×V))(ho:hp[id]?=some (mOb kv agg enc m))(hF:F≤hp.length)
  (k:∀ (mr:List (K×V)) (bs:List Nat) (cl:Nat),bs.length=mr.length→St.holds P F N Q (.code c ks) fr (hp.set id (mObS kv agg enc m (rawM kv enc mr bs cl)))):St.holds P F N Q (.code c ks) fr hp:=by
 intro Z w0 O0 M0 w M a hs ha hr
 have hid:id<hp.length:=(gEs.1 ho).1
 obtain⟨b,c0,hM⟩:∃ b c,M.l[id]?=some (some (b,c)):=by
  have e:M.l[id]?=some (M.l[id]'(by rw[hr.heap.len];exact hid)):=gGe _
  have:=hr.heap.obj id _ _ ho e
  revert this
  rw[e]
  cases M.l[id]'(by rw[hr.heap.len];exact hid) with
  | some p=>exact fun _=>⟨p.1,p.2,rfl⟩
  | none=>exact fun h=>h.elim
 obtain⟨m',ms,cl,hA⟩:=Khy hr.heap ho hM
 have hbl:(ms.toList.map (·.born)).length=m'.length:=by simp[hA.size]
 obtain⟨r1,r2⟩:=Kil hr.heap ho (o':=mObS kv agg enc m (rawM kv enc m' (ms.toList.map (·.born)) cl)) rfl rfl fun q hq hob=>by
  rw[hM] at hq
  cases hq
  exact⟨ms,cl,_,hA.heap,hA.perm.map _,List.pairwise_map.2 hA.apart,fun raw h=>(by cases h;rfl),by simpa using hA.size,hA.born,fun j k' ds hj=>by
   rw[gMp] at hj
   obtain⟨y,hy,he⟩:=oMs.1 hj
   simp only[Prod.mk.injEq] at he
   obtain⟨rfl,rfl⟩:=he
   exact hA.get j y hy⟩
 have hst:Stp w (own hp M) w (own (hp.set id (mObS kv agg enc m (rawM kv enc m' (ms.toList.map (·.born)) cl))) M):=by rw[r2];exact .refl _ _
 refine k m' (ms.toList.map (·.born)) cl hbl Z w0 O0 M0 w M a (hs.trans hst) ha ⟨r1,fun t g hg=>?_,hr.size,hr.defers⟩
 obtain⟨v,h1,h2⟩:=hr.fr t g hg
 exact⟨v,h1,h2.step (Kob Z hst) (fun _ _=>rfl)⟩
theorem Kni{c:Code}{id:Nat}{st}(m:List (K×V))(hp2:List Ob)(ho:hp[id]?=some (mObS kv agg enc m st))(h2:hp.set id (mOb kv agg enc m)=hp2)(hF:F≤hp.length)(k:St.holds P F N Q (.code c ks) fr hp2):St.holds P F N Q (.code c ks) fr hp:=by
 subst h2
 intro Z w0 O0 M0 w M a hs ha hr
 obtain⟨r1,r2⟩:=Kil hr.heap ho (o':=mOb kv agg enc m) rfl rfl fun q hq hob=>by
  match q,hob with
  | some (b,c),⟨ms,cl,es',h1,p1,p2,p3,h2⟩=>exact⟨ms,cl,es',h1,p1,p2,fun raw h=>(by cases h),h2⟩
 have hst:Stp w (own hp M) w (own (hp.set id (mOb kv agg enc m)) M):=by rw[r2];exact .refl _ _
 refine k Z w0 O0 M0 w M a (hs.trans hst) ha ⟨r1,fun t g hg=>?_,hr.size,hr.defers⟩
 obtain⟨v,h1,h2⟩:=hr.fr t g hg
 exact⟨v,h1,h2.step (Kob Z hst) (fun _ _=>rfl)⟩
theorem Knj(hΓ:TOK P Γ){t kt et:TypeId}{i1 i2 i3:TI}{x y:Operand}{id cl:Nat}{bs:List Nat}{hp2:List Ob}(m mr:List (K×V))(k:K)(z:V){gv:G}(h1:Γ t=some i1)(h1':i1.desc=.map kt et)(h2:Γ kt=some i2)(h3:Γ et=some i3)(hK:KeyOk i2.desc kv)
  (hx:fr.ev x=some (.map id)) (ho:hp[id]?=some (mObS kv agg enc m (rawM kv enc mr bs cl))) (hy:fr.ev y=some (.d (.v (kv k)))) (hz:ZDv agg (enc z) i3.zero) (hg:dG agg (enc ((mGet m k).getD z))=some gv) (hbl:bs.length=mr.length)
  (hhp:hp.set id (mObS kv agg enc (mEnt m k z) (rawM kv enc (entR mr k z) (entB mr bs cl k) (entC mr cl k)))=hp2):OpS P N ⟨some d,.mapEntry t x y,ty,pos,after,gd⟩ fr hp (.tup [gv,I (bornOf mr bs cl k)]) hp2:=fun Z w M a hr=>by
 subst hhp
 obtain⟨u1,_⟩:=hΓ t _ h1
 rw[h1'] at u1
 obtain⟨u2,_⟩:=hΓ kt _ h2
 obtain⟨u3,inf,e1,e2,e3,e4⟩:=hΓ et _ h3
 have hvx:=hr.ev hx
 simp only[execOp,hr.ev_v hy]
 generalize a.eval x=vx at hvx
 cases hvx with
 | map hM=>
  rename_i b c
  obtain⟨m',ms,cl',hA⟩:=Khy hr.heap ho hM
  have m1:=hA.heap
  have m2:=hA.size
  have m3:=hA.born
  have m4:=hA.get
  have hraw:=hA.raw _ rfl
  simp only[Prod.mk.injEq] at hraw
  obtain⟨hr1,hr2,rfl⟩:=hraw
  have hml:mr.length=m'.length:=by have:=congrArg List.length hr1;simpa using this
  have hf:=MapKept.run_findKey (P:=P) (w:=w) u2 (hA.find hK k)
  have hc:=MapKept.run_checkKey (P:=P) (w:=w) u2 (hK.key k) false 9999
  have hfi:=Kng hK k hr1
  have hfm:(m'.findIdx? fun e=>k==e.1)=none ↔ (m.findIdx? fun e=>k==e.1)=none:=⟨Kid hA.perm k,Kid hA.perm.symm k⟩
  have hgm:dG agg (enc ((mGet m' k).getD z))=some gv:=by rw[Khx hK hA.perm hA.apart];exact hg
  rw[Khz] at hgm
  have fin:∀ (w':World) (M':Mp) (hp':List Ob) (v:Value) (n:Nat),VR w' (ownZ Z hp' M') M' gv v→VR w' (ownZ Z hp' M') M' (.tup [gv,I (n:Int)]) (.tuple #[v,.int .i64 n]):=fun w' M' hp' v n hv=>.tup rfl fun j g u hg hu=>by
   match j with
   | 0=>cases hg;cases hu;exact hv
   | 1=>cases hg;cases hu;exact .d (.v _ rfl)
   | j+2=>cases hg
  cases hi:m'.findIdx? fun e=>k==e.1 with
  | none=>
   rw[hi] at hf hgm
   simp only[Option.bind_none,Option.getD_none] at hf hgm
   have hent:mEnt m k z=mIns k z m:=by unfold mEnt;rw[hfm.1 hi]
   have hR:entR mr k z=mr++[(k,z)]:=by unfold entR;rw[hfi,hi]
   have hB:entB mr bs cl k=bs++[cl]:=by unfold entB;rw[hfi,hi]
   have hC:entC mr cl k=cl+1:=by unfold entC;rw[hfi,hi]
   have hbo:bornOf mr bs cl k=cl:=by unfold bornOf;rw[hfi,hi]
   have hnk:∀ e∈m',kv e.1≠kv k:=fun e he hkv=>by
    have h0:=List.findIdx?_eq_none_iff.1 hi e he
    have hs:=hK.same k e.1
    rw[hkv,hK.same k k,hK.refl k,h0] at hs
    cases hs
   rw[hent,hR,hB,hC,hbo]
   obtain⟨r1,r2⟩:=Khv (o':=mObS kv agg enc (mIns k z m) (rawM kv enc (mr++[(k,z)]) (bs++[cl]) (cl+1))) (ob':=.map (ms.push { key:=kv k,val:=i3.zero,born:=cl }) (cl+1)) hr.heap ho rfl hM (fun w' hst hh=>by
    refine⟨_,_,(m'++[(k,z)]).map fun e=>(kv e.1,enc e.2),hh,?_,?_,fun raw h=>(by cases h;simp[hr1,hr2]),by simp[m2],⟨fun i j e e' hi hj hb=>?_,fun i e hi=>?_⟩,fun j k' ds hj=>?_⟩
    ·exact((hA.perm.append_right _).trans (Kho k z m).symm).map _
    ·rw[List.pairwise_map,List.pairwise_append]
     exact⟨hA.apart,List.pairwise_singleton _ _,fun e he e' he'=>by obtain rfl:=List.mem_singleton.1 he';exact hnk e he⟩
    ·rw[Array.getElem?_push] at hi hj
     split at hi<;>split at hj
     ·omega
     ·cases hi;have:=m3.2 j e' hj;simp only at hb;omega
     ·cases hj;have:=m3.2 i e hi;simp only at hb;omega
     ·exact m3.1 i j e e' hi hj hb
    ·rw[Array.getElem?_push] at hi
     split at hi
     ·cases hi;simp
     ·have:=m3.2 i e hi;omega
    ·simp only[List.map_append,List.map_cons,List.map_nil] at hj
     rcases Kqb hj with⟨hl,h'⟩ | ⟨hl,h'⟩
     ·rw[gMp] at h'
      obtain⟨x,hx,he⟩:=oMs.1 h'
      simp only[Prod.mk.injEq] at he
      obtain⟨rfl,rfl⟩:=he
      obtain⟨e,e1,e2,e3⟩:=m4 j x hx
      have hlt:=(aEs.1 e1).1
      exact⟨e,by rw[Array.getElem?_push_lt hlt,←Array.getElem?_eq_getElem hlt];exact e1,e2,e3.step hst⟩
     ·simp only[Prod.mk.injEq] at h'
      obtain⟨rfl,rfl⟩:=h'
      refine⟨{ key:=kv k,val:=i3.zero,born:=cl },?_,rfl,hz _ _⟩
      rw[hl,List.length_map,←m2]
      simp) rfl
   refine⟨.tuple #[i3.zero,.int .i64 cl],_,M,?_,r1,fin _ _ _ _ _ ((hz _ _).vr hgm),r2,⟨Nat.le_of_eq hr.heap.len.symm,fun _ _=>rfl⟩⟩
   simp[Instr.mapEntry,run_underlying u1,MapKept.run_getObj_map m1,hc,hf,zeroValue,typeInfo,e1,e4,MapKept.run_setObj_map _ m1];rfl
  | some j=>
   rw[hi] at hf hgm
   have hj:j<m'.length:=(lFi.1 hi).1
   have hkj:(k==(m'[j]).1)=true:=(lFi.1 hi).2.1
   have hkj':=hK.eq _ _ hkj
   obtain⟨e,f1,f2,f3⟩:=m4 j _ (gGe hj)
   simp only[Option.bind_some,f1,Option.map_some,List.getElem?_eq_getElem hj,Option.getD_some] at hf hgm
   obtain⟨i,hi2⟩:∃ i,(m.findIdx? fun e=>k==e.1)=some i:=by
    cases h0:m.findIdx? fun e=>k==e.1 with
    | some i=>exact⟨i,rfl⟩
    | none=>rw[hfm.2 h0] at hi;cases hi
   have hent:mEnt m k z=m:=by unfold mEnt;rw[hi2]
   have hR:entR mr k z=mr:=by unfold entR;rw[hfi,hi]
   have hB:entB mr bs cl k=bs:=by unfold entB;rw[hfi,hi]
   have hC:entC mr cl k=cl:=by unfold entC;rw[hfi,hi]
   have hbo:bornOf mr bs cl k=e.born:=by
    unfold bornOf;rw[hfi,hi,hr2]
    have:ms.toList[j]?=some e:=by rw[Array.getElem?_toList];exact f1
    simp[List.getD,this]
   have hbits:Instr.sameBits 10000 e.key (kv k)=true:=by rw[f2];exact hK.bits k _ hkj
   rw[hent,hR,hB,hC,hbo]
   obtain⟨r1,r2⟩:=Khv (o':=mObS kv agg enc m (rawM kv enc mr bs cl)) (ob':=.map (ms.modify j fun e=>{ e with key:=kv k }) cl) hr.heap ho rfl hM (fun w' hst hh=>by
    have hget:∀ (i:Nat) (e':MapEntry),(ms.modify j fun e=>{ e with key:=kv k })[i]?=some e'→∃ e0,ms[i]?=some e0∧e'.born=e0.born:=fun i e' h=>by
     rw[Array.getElem?_modify] at h
     split at h
     ·obtain⟨e0,h0,rfl⟩:=oMs.1 h
      exact⟨e0,h0,rfl⟩
     ·exact⟨e',h,rfl⟩
    have hborn:(ms.modify j fun e=>{ e with key:=kv k }).toList.map (·.born)=ms.toList.map (·.born):=by
     apply List.ext_getElem?
     intro n
     simp only[List.getElem?_map,Array.getElem?_toList,Array.getElem?_modify]
     split<;>(rename_i hn;first | (subst hn;cases ms[j]?<;>rfl) | rfl)
    refine⟨_,_,m'.map fun e=>(kv e.1,enc e.2),hh,hA.perm.map _,(by rw[List.pairwise_map];exact hA.apart),fun raw h=>(by cases h;rw[hr1,hborn,←hr2]),by simp[m2],⟨fun i i' e1 e2 h1 h2 hb=>?_,fun i e1 h1=>?_⟩,fun i k' ds h=>?_⟩
    ·obtain⟨a1,b1,c1⟩:=hget i e1 h1
     obtain⟨a2,b2,c2⟩:=hget i' e2 h2
     exact m3.1 i i' a1 a2 b1 b2 (by rw[←c1,←c2];exact hb)
    ·obtain⟨a1,b1,c1⟩:=hget i e1 h1
     rw[c1];exact m3.2 i a1 b1
    ·rw[gMp] at h
     obtain⟨x,hx,he⟩:=oMs.1 h
     simp only[Prod.mk.injEq] at he
     obtain⟨rfl,rfl⟩:=he
     obtain⟨e1,g1,g2,g3⟩:=m4 i x hx
     by_cases hij:j=i
     ·subst hij
      rw[f1] at g1
      cases g1
      rw[gGe hj] at hx
      cases hx
      exact⟨{ e with key:=kv k },by rw[Array.getElem?_modify,if_pos rfl,f1];rfl,by rw[←hkj'],g3.step hst⟩
     ·exact⟨e1,by rw[Array.getElem?_modify,if_neg hij];exact g1,g2,g3.step hst⟩) rfl
   refine⟨.tuple #[e.val,.int .i64 e.born],_,M,?_,r1,fin _ _ _ _ _ ((f3.step (Kob Z r2)).vr hgm),r2,⟨Nat.le_of_eq hr.heap.len.symm,fun _ _=>rfl⟩⟩
   simp[Instr.mapEntry,run_underlying u1,MapKept.run_getObj_map m1,hc,hf,MapKept.run_setObj_map _ m1,f1,Instr.keyThatStays,hbits];rfl
theorem Knk{dd:TypeDesc}{t:TypeId}{x y z0:Operand}{id cl:Nat}{bs:List Nat}{hp2:List Ob}(m mr:List (K×V))(k:K)(z v:V){gv:G}(hK:KeyOk dd kv)(hx:fr.ev x=some (.map id))(ho:hp[id]?=some (mObS kv agg enc (mEnt m k z) (rawM kv enc (entR mr k z) (entB mr bs cl k) (entC mr cl k))))
  (hy:fr.ev y=some (I (bornOf mr bs cl k))) (hv:fr.ev z0=some gv) (hg:dG agg (enc v)=some gv) (hbl:bs.length=mr.length) (hhp:hp.set id (mOb kv agg enc (mSet m k v))=hp2):OpU P N ⟨none,.entryStore t x y z0,ty,pos,after,gd⟩ fr hp hp2:=fun Z w M a hr=>by
 subst hhp
 have hvx:=hr.ev hx
 have hvz:=hr.ev hv
 simp only[execOp,hr.ev_v hy]
 generalize a.eval x=vx at hvx
 generalize a.eval z0=vz at hvz
 have hdz:DV w (ownZ Z hp M) agg (enc v) vz:=hvz.dv hg
 cases hvx with
 | map hM=>
  rename_i b c
  obtain⟨m',ms,cl',hA⟩:=Khy hr.heap ho hM
  have m1:=hA.heap
  have m2:=hA.size
  have m3:=hA.born
  have m4:=hA.get
  have hraw:=hA.raw _ rfl
  simp only[Prod.mk.injEq] at hraw
  obtain⟨hr1,hr2,_⟩:=hraw
  obtain⟨i,y0,hR,hky,hB⟩:∃ (i:Nat) (y:K×V),(entR mr k z)[i]?=some y∧(k==y.1)=true∧(entB mr bs cl k)[i]?=some (bornOf mr bs cl k):=by
   unfold entR entB bornOf
   cases hi:mr.findIdx? fun e=>k==e.1 with
   | some i=>
    obtain⟨q1,q2,_⟩:=lFi.1 hi
    have hib:i<bs.length:=by omega
    exact⟨i,mr[i],gGe q1,q2,by show bs[i]?=some (bs.getD i 0);rw[List.getD_eq_getElem?_getD,gGe hib];rfl⟩
   | none=>exact⟨mr.length,(k,z),by simp,hK.refl k,by simp[←hbl]⟩
  have hml:(entR mr k z).length=m'.length:=by have:=congrArg List.length hr1;simpa using this
  have hil:i<m'.length:=by rw[←hml];exact(gEs.1 hR).1
  have hkv:kv (m'[i]).1=kv k:=by
   have h0:((entR mr k z).map (fun e=>(kv e.1,enc e.2)))[i]?=some (kv y0.1,enc y0.2):=by rw[gMp,hR];rfl
   rw[hr1,gMp,gGe hil] at h0
   simp only[Option.map_some,Option.some.injEq,Prod.mk.injEq] at h0
   rw[h0.1,hK.eq _ _ hky]
  obtain⟨e,f1,f2,f3⟩:=m4 i _ (gGe hil)
  have hbe:e.born=bornOf mr bs cl k:=by
   have h0:=hB
   rw[hr2,gMp,Array.getElem?_toList,f1] at h0
   exact oSi h0
  have his:i<ms.size:=(aEs.1 f1).1
  have hfind:ms.findIdx? (fun e=>(e.born:Int)==((bornOf mr bs cl k:Nat):Int))=some i:=by
   rw[Array.findIdx?_eq_some_iff_getElem]
   refine⟨his,?_,fun j hj=>?_⟩
   ·rw[Array.getElem?_eq_getElem his] at f1
    rw[oSi f1,hbe];simp
   ·have hjs:j<ms.size:=by omega
    simp only[beq_iff_eq,Int.natCast_inj]
    intro hc
    have:=m3.1 j i (ms[j]) e (Array.getElem?_eq_getElem hjs) f1 (by rw[hc,hbe])
    omega
  obtain⟨q1,q2⟩:=Kic (k,v) (gGe hil)
  have hperm:(m'.set i (k,v)).Perm (mSet m k v):=by
   refine q1.trans ?_
   have hme:m'[i]∈m':=List.getElem_mem hil
   cases hi:m.findIdx? fun e=>k==e.1 with
   | some j=>
    obtain⟨p1,p2,_⟩:=lFi.1 hi
    have hent:mEnt m k z=m:=by unfold mEnt;rw[hi]
    have hp0:=hA.perm
    rw[hent] at hp0
    obtain⟨s1,s2⟩:=Kic (k,v) (gGe p1)
    have hsame:m'[i]=m[j]:=hA.apart.one hme (hp0.mem_iff.2 (List.getElem_mem p1)) (by rw[hkv,←hK.eq _ _ p2])
    rw[hsame] at q2
    have:mSet m k v=m.set j (k,v):=by unfold mSet;rw[hi]
    rw[this]
    exact(((q2.symm.trans hp0).trans s2).cons_inv.cons _).trans s1.symm
   | none=>
    have hent:mEnt m k z=mIns k z m:=by unfold mEnt;rw[hi]
    have hp0:=hA.perm
    rw[hent] at hp0
    have hp1:m'.Perm ((k,z) :: m):=hp0.trans ((Kho k z m).trans (List.perm_append_comm (l₁:=m) (l₂:=[(k,z)])))
    have hsame:m'[i]=(k,z):=hA.apart.one hme (hp1.mem_iff.2 (mCs ..)) (by rw[hkv])
    rw[hsame] at q2
    have:mSet m k v=mIns k v m:=by unfold mSet;rw[hi]
    rw[this]
    exact(((q2.symm.trans hp1).cons_inv).cons _).trans ((List.perm_append_comm (l₁:=[(k,v)]) (l₂:=m)).trans (Kho k v m).symm)
  obtain⟨r1,r2⟩:=Khv (o':=mOb kv agg enc (mSet m k v)) (ob':=.map (ms.modify i fun e=>{ e with val:=vz }) cl') hr.heap ho rfl hM (fun w' hst hh=>by
   have hget:∀ (j:Nat) (e':MapEntry),(ms.modify i fun e=>{ e with val:=vz })[j]?=some e'→∃ e0,ms[j]?=some e0∧e'.born=e0.born:=fun j e' h=>by
    rw[Array.getElem?_modify] at h
    split at h
    ·obtain⟨e0,h0,rfl⟩:=oMs.1 h
     exact⟨e0,h0,rfl⟩
    ·exact⟨e',h,rfl⟩
   refine⟨_,_,(m'.set i (k,v)).map fun e=>(kv e.1,enc e.2),hh,hperm.map _,?_,fun raw h=>(by cases h),by simp[m2],⟨fun i i' e1 e2 h1 h2 hb=>?_,fun i e1 h1=>?_⟩,fun j k' ds h=>?_⟩
   ·have hkeys:(m'.set i (k,v)).map (fun e=>kv e.1)=m'.map (fun e=>kv e.1):=by
     rw[List.map_set]
     apply List.ext_getElem?
     intro n
     rw[List.getElem?_set]
     split
     ·rename_i hn
      subst hn
      simp[hil,hkv]
     ·rfl
    rw[List.pairwise_map]
    have:=List.pairwise_map (f:=fun e:K×V=>kv e.1) (R:=fun x y=>x≠y) (l:=m'.set i (k,v))
    rw[hkeys,List.pairwise_map] at this
    exact this.1 hA.apart
   ·obtain⟨a1,b1,c1⟩:=hget i e1 h1
    obtain⟨a2,b2,c2⟩:=hget i' e2 h2
    exact m3.1 i i' a1 a2 b1 b2 (by rw[←c1,←c2];exact hb)
   ·obtain⟨a1,b1,c1⟩:=hget i e1 h1
    rw[c1];exact m3.2 i a1 b1
   ·rw[gMp] at h
    obtain⟨x,hx,he⟩:=oMs.1 h
    simp only[Prod.mk.injEq] at he
    obtain⟨rfl,rfl⟩:=he
    by_cases hij:i=j
    ·subst hij
     rw[gSs hil] at hx
     cases hx
     exact⟨{ e with val:=vz },by rw[Array.getElem?_modify,if_pos rfl,f1];rfl,by rw[f2,hkv],hdz.step hst⟩
    ·rw[gSn hij] at hx
     obtain⟨e1,g1,g2,g3⟩:=m4 j x hx
     exact⟨e1,by rw[Array.getElem?_modify,if_neg hij];exact g1,g2,g3.step hst⟩) rfl
  refine⟨_,M,?_,r1,r2,⟨Nat.le_of_eq hr.heap.len.symm,fun _ _=>rfl⟩⟩
  simp[Instr.entryStore,MapKept.run_getObj_map m1,asInt,asIntOf,hfind,MapKept.run_setObj_map _ m1]
end
theorem Knl{P:Program}{Γ:TypeId→Option TI}{N:Nat}{fr:Fr}{hp:List Ob}{α:Type}{enc:α→List D}(hΓ:TOK P Γ){d:Tmp}{ty:TypeId}{pos:String}{after:Array Edge}{gd':Option (Nat×Bool)}{t e:TypeId}{len:Nat}{i1 i2:TI}{parts:Array (Nat×Operand)}{pg:List (Nat×G)}{gs:List G}(l:List α)(h1:Γ t=some i1)(h1':i1.desc=.slice e)(h2:Γ e=some i2)
  (hz:(i2.zero.cells.toList.all (·.oneCell'))=true) (hz':Nat.blt 0 i2.zero.cells.size=true) (hlen:Nat.ble (len * i2.size) 16777216=true) (hlen':Nat.ble len 16777216=true) (hp':evParts fr parts.toList=some pg) (hf:fillG (fun i=>some (i * i2.size,i2.size)) (zerosG i2 len) pg=some gs) (hds:toDs gs=some (l.flatMap enc)) (hl:len=l.length) {id n:Nat} {hp2:List Ob} (hid:hp.length=id) (hn:l.length=n) (hhp:hp++[.row e i2.size l.length (l.flatMap enc)]=hp2) :
  OpS P N ⟨some d,.buildSlice t len parts,ty,pos,after,gd'⟩ fr hp (.sl id n) hp2:=by
 subst hl;subst hid;subst hhp;subst hn
 exact Kjx hΓ h1 h1' h2 hz hz' hlen hlen' hp' hf hds
end Go.Gk
