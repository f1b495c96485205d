import Derived.Test.YtcihhlhmkcaeeaaGreatDoorGk49
set_option linter.all false
namespace Go.Gk
section
variable{P:Program}{Γ:TypeId→Option TI}{F N:Nat}{Q:GPost}{fr fr':Fr}{hp hp':List Ob}{ks:List Kt}
variable{α:Type}{enc:α→List D}{ops:Array Oper}{rest:List Oper}{g:G}
variable{d:Tmp}{op:Op}{ty:TypeId}{pos:String}{after:Array Edge}{gd':Option (Nat×Bool)}
theorem Kno(hΓ:TOK P Γ){t e:TypeId}{i1 i2:TI}{x y:Operand}{id n:Nat}{l:List α}{z:α}{kd:IntKind}{k:Int}(hz:getZ l k=some z)(h1:Γ t=some i1)(h1':i1.desc=.slice e)(h2:Γ e=some i2)(hx:fr.ev x=some (.sv id n))(hn:n=l.length)
  (hy:fr.ev y=some (.d (.v (.int kd k)))):OpP P N ⟨some d,.indexAddr t x y,ty,pos,after,gd'⟩ fr hp (.pv id (k.toNat * i2.size)):=fun Z w M a hr=>by
 obtain⟨i,rfl,hi,hz'⟩:=Kdy hz
 obtain⟨u1,_⟩:=hΓ t _ h1
 rw[h1'] at u1
 have hs:=run_size' (P:=P) (w:=w) hΓ h2
 have hvx:=hr.ev hx
 simp only[execOp,hr.ev_v hy]
 generalize a.eval x=vx at hvx
 cases hvx with
 | svnil hM=>rw[←hn] at hi;omega
 | sv hM hnc hm=>
  rename_i b c
  refine⟨.pointer (some ⟨b,voff c+i * i2.size,none⟩),?_,.pv hM⟩
  have hin:i<n:=by omega
  have:(0:Int)≤(i:Int)∧(i:Int)<(n:Int):=by omega
  simp[Instr.indexAt,asIntOf,run_underlying u1,hs,this,Addr.add_lit,hin]
theorem Knp(hΓ:TOK P Γ){t tb:TypeId}{i:TI}{x:Operand}{id off sz n:Nat}{ds ys:List D}(hi:Γ t=some i)(hx:fr.ev x=some (.pv id off))(ho:hp[id]?=some (.rowv tb sz n ds))(hys:∀ j d,ys[j]?=some d→ds[off+j]?=some d)
  (hg:loadD i ys 0=some g):OpP P N ⟨some d,.load t x,ty,pos,after,gd'⟩ fr hp g:=fun Z w M a hr=>by
 have hvx:=hr.ev hx
 simp only[execOp]
 generalize a.eval x=vx at hvx
 cases hvx with
 | pv hM=>
  rename_i b c
  obtain⟨_,cs,hb,_,_,_,hcr⟩:=hr.heap.obj id _ _ ho hM
  obtain⟨hu,_⟩:=hΓ t i hi
  rw[Kpt] at hg
  have hcell:∀ (j:Nat) (d:D),ys[j]?=some d→∃ v,w.cell? ⟨b,voff c+off+j,none⟩=some v∧VD w (ownZ Z hp M) d v:=fun j d hj=>by
   obtain⟨v,e1,e2⟩:=hcr _ d (hys j d hj)
   exact⟨v,by rw[cell_of_row w b _ cs _ _ hb,Nat.add_assoc];exact e1,e2⟩
  unfold loadG at hg
  cases hb':TypeDesc.isAgg i.desc with
  | true=>
   rw[hb'] at hg
   cases hn:Nat.ble (0+i.size) (ys.map G.d).length with
   | false=>rw[hn] at hg;cases hg
   | true=>
    rw[hn] at hg
    cases hg
    have hle:i.size≤ys.length:=by have:=nBe hn;simpa using this
    have hin:∀ j,(hj:j<i.size)→ys[j]?=some (ys[j]'(by omega)):=fun j hj=>gGe (by omega)
    have hrun:=run_loadCells (P:=P) w ⟨b,voff c+off,none⟩ i.size (fun j=>(w.cell? ⟨b,voff c+off+j,none⟩).getD undef) (fun j hj=>by
     obtain⟨v,e1,_⟩:=hcell j _ (hin j hj)
     rw[Addr.add_lit,e1];rfl)
    refine⟨_,by simp[Instr.loadAt,Instr.sureAddr,loadVar,run_isAgg' hu,hb',run_size' hΓ hi,hrun];rfl,?_⟩
    refine .agg (by simp;omega) fun j g v hg hv'=>?_
    rw[List.getElem?_take] at hg
    split at hg
    ·rename_i hj
     simp only[List.drop_zero,List.getElem?_map] at hg
     obtain⟨d,hd,rfl⟩:=oMs.1 hg
     obtain⟨u,e1,e2⟩:=hcell j d hd
     have:v=u:=by simpa [hj,e1] using hv'.symm
     rw[this]
     exact .d e2
    ·cases hg
  | false=>
   rw[hb'] at hg
   have hg':(ys.map G.d)[0]?=some g:=by rw[cond_false,Kpq] at hg;exact hg
   rw[gMp] at hg'
   obtain⟨d,hd,rfl⟩:=oMs.1 hg'
   obtain⟨u,e1,e2⟩:=hcell 0 d hd
   simp only[Nat.add_zero] at e1
   exact⟨_,by simp[Instr.loadAt,Instr.sureAddr,loadVar,run_isAgg' hu,hb',e1],.d e2⟩
theorem Knq(hΓ:TOK P Γ){t tb:TypeId}{i:TI}{x:Operand}{id off sz n:Nat}{l:List α}{z:α}(j fo:Nat)(hz:l[j]?=some z)(hi:Γ t=some i)(hx:fr.ev x=some (.pv id off))(hoff:off=j * sz+fo)(ho:hp[id]?=some (.rowv tb sz n (l.flatMap enc)))(henc:∀ y,(enc y).length=sz)
  (hg:loadD i ((enc z).drop fo) 0=some g):OpP P N ⟨some d,.load t x,ty,pos,after,gd'⟩ fr hp g:=by
 refine Knp hΓ hi hx ho (fun k dd hd=>?_) hg
 rw[List.getElem?_drop] at hd
 rw[hoff,Nat.add_assoc]
 exact Kcp (sz:=sz) (fun y _=>henc y) hz _ _ hd
theorem Knr{Z:Env}{M:Mp}{w w':World}(hr:RelH Z hp M w){id:Nat}{o o':Ob}{mo mo':Option (Nat×Nat)}(ho:hp[id]?=some o)(hl:o.live=true)(hM:M.l[id]?=some mo)(hog:o'.isBag=false)(hsz:w.heap.size≤w'.heap.size)(hos:w'.os=w.os)(htp:w'.tape=w.tape)(hou:w'.output=w.output)
  (hk:∀ k,k<w.heap.size→(∀ b c,mo'=some (b,c)→k≠b)→w'.heap[k]?=w.heap[k]?) (hblk:∀ b c',mo'=some (b,c')→(∃ c,mo=some (b,c))∨w.heap.size≤b) (ho':∀ O',Stp w (ownZ Z hp M) w' O'→ObR w' O' (M.app [mo']) o' mo') :
  RelH Z (hp.set id .dead++[o']) (M.app [mo']) w'∧Stp w (own hp M) w' (own (hp.set id .dead++[o']) (M.app [mo']))∧Agr hp.length M (M.app [mo']):=by
 have hid:id<hp.length:=(gEs.1 ho).1
 have hMold:∀ i,i<M.l.length→(M.app [mo']).l[i]?=M.l[i]?:=fun i hi=>gAl hi
 have hMnew:(M.app [mo']).l[hp.length]?=some mo':=by rw[←hr.len];simp
 have hcase:∀ (i:Nat) (q:Ob),(hp.set id .dead++[o'])[i]?=some q→(i<hp.length∧i≠id∧hp[i]?=some q)∨(i=id∧q=.dead)∨(i=hp.length∧q=o'):=fun i q h=>by
  by_cases hi:i<hp.length
  ·rw[gAl (by simpa using hi)] at h
   by_cases hii:i=id
   ·subst hii;simp[hid] at h;exact .inr (.inl ⟨rfl,h.symm⟩)
   ·rw[gSn (Ne.symm hii)] at h;exact .inl ⟨hi,hii,h⟩
  ·rw[gAr (by simp;omega)] at h
   simp only[List.length_set] at h
   have h0:i - hp.length=0:=by
    cases hk:i - hp.length with
    | zero=>rfl
    | succ k=>rw[hk] at h;simp at h
   rw[h0] at h
   simp at h
   exact .inr (.inr ⟨by omega,h.symm⟩)
 have hlive:∀ (c:Nat) (b:Nat),mo=some (b,c)→obOwn hp M b:=fun c b e=>⟨id,_,c,ho,hl,by rw[hM,e]⟩
 have hkeep:∀ b,b<w.heap.size→¬ own hp M b→w'.heap[b]?=w.heap[b]?:=fun b hb hn=>hk b hb fun b' c' e he=>by
  subst he
  rcases hblk b c' e with⟨c,hc⟩ | h
  ·exact hn (.inl (hlive c b hc))
  ·omega
 have hobo:∀ b,b<w.heap.size→obOwn (hp.set id .dead++[o']) (M.app [mo']) b→obOwn hp M b:=by
  rintro b hb ⟨i,q,c,h1,h2,h3⟩
  rcases hcase i q h1 with⟨e1,e2,e3⟩ | ⟨rfl,rfl⟩ | ⟨rfl,rfl⟩
  ·rw[hMold i (by rw[hr.len];exact e1)] at h3
   exact⟨i,q,c,e3,h2,h3⟩
  ·cases h2
  ·rw[hMnew] at h3
   rcases hblk b c (oSi h3) with⟨c2,hc⟩ | h
   ·exact hlive c2 b hc
   ·omega
 have hbg:∀ (i:Nat) (al:List Bool) (ar:List Ar) (lt:List (Nat×Nat)),(hp.set id .dead++[o'])[i]?=some (.bag al ar lt)→hp[i]?=some (.bag al ar lt):=fun i al ar lt h=>Koe rfl i al ar lt (Kof hog i al ar lt h)
 have htags:KeepT hp M w w':=fun x hx hno=>hk x.b (hr.bags.tgs x hx).1 fun b' c' e he=>by
  rcases hblk b' c' e with⟨c,hc⟩ | h
  ·exact hno (he▸hlive c b' hc)
  ·have:=(hr.bags.tgs x hx).1;omega
 have hst:Stp w (own hp M) w' (own (hp.set id .dead++[o']) (M.app [mo'])):=.mk' hsz hkeep (fun b hb h=>Kod h (hobo b hb) (fun g=>g.of hbg) rfl) hos htp hou rfl (fun g=>g.of hbg) (hr.bags.ht htags)
 have hob':∀ i q c b,i≠id→hp[i]?=some q→q.live=true→M.l[i]?=some (some (b,c))→w'.heap[b]?=w.heap[b]?:=fun i q c b hi h1 h2 h3=>by
  have hlt:=hr.block_ob ⟨i,q,c,h1,h2,h3⟩
  refine hk b hlt fun b' c' e he=>?_
  subst he
  rcases hblk b c' e with⟨c2,hc⟩ | h
  ·exact hi (hr.inj i id q _ b c c2 h1 ho h2 hl h3 (by rw[hM,hc]))
  ·omega
 have hnew:∀ i q b c,i≠id→hp[i]?=some q→q.live=true→M.l[i]?=some (some (b,c))→∀ c',mo'=some (b,c')→False:=fun i q b c hi h1 h2 h3 c' he=>by
  have hlt:=hr.block_ob ⟨i,q,c,h1,h2,h3⟩
  rcases hblk b c' he with⟨c3,hc⟩ | h
  ·exact hi (hr.inj i id q _ b c c3 h1 ho h2 hl h3 (by rw[hM,hc]))
  ·omega
 refine⟨⟨by simp[hr.len],fun i q m' h1 h2=>?_,fun b hb hz=>?_,fun b hz=>nLl (hr.old b hz) hsz,hr.amb_stp hst,fun i j oi oj b c c' hi hj li lj mi mj=>?_,hr.bags.mono rfl hsz hobo hbg⟩,hst,⟨by simp[hr.len],fun i hi=>hMold i (by rw[hr.len];exact hi)⟩⟩
 ·rcases hcase i q h1 with⟨e1',e2',e3'⟩ | ⟨rfl,rfl⟩ | ⟨rfl,rfl⟩
  ·rw[hMold i (by rw[hr.len];exact e1')] at h2
   have hob:=hr.obj i q m' e3' h2
   exact hob.move (k:=M.l.length) (Koi Z hst) hMold hob.bel (fun b c e hl2=>by subst e;exact hob' i q c b e2' e3' hl2 h2) (hr.bags.kp htags rfl e3')
  ·cases m'<;>trivial
  ·rw[hMnew] at h2
   cases h2
   exact ho' _ (Koi Z hst)
 ·by_cases hb':b<w.heap.size
  ·exact hr.apart b (hst.own b hb' hb) hz
  ·exact absurd (hr.old b hz) hb'
 ·rcases hcase i oi hi with⟨a1,a2,a3⟩ | ⟨rfl,rfl⟩ | ⟨rfl,rfl⟩
  ·rw[hMold i (by rw[hr.len];exact a1)] at mi
   rcases hcase j oj hj with⟨b1,b2,b3⟩ | ⟨rfl,rfl⟩ | ⟨rfl,rfl⟩
   ·rw[hMold j (by rw[hr.len];exact b1)] at mj
    exact hr.inj i j oi oj b c c' a3 b3 li lj mi mj
   ·cases lj
   ·rw[hMnew] at mj
    exact(hnew i oi b c a2 a3 li mi c' (by cases mj;rfl)).elim
  ·cases li
  ·rw[hMnew] at mi
   rcases hcase j oj hj with⟨b1,b2,b3⟩ | ⟨rfl,rfl⟩ | ⟨rfl,rfl⟩
   ·rw[hMold j (by rw[hr.len];exact b1)] at mj
    exact(hnew j oj b c' b2 b3 lj mj c (by cases mi;rfl)).elim
   ·cases lj
   ·rfl
theorem Kns(hΓ:TOK P Γ){t e:TypeId}{i1 i2:TI}{x:Operand}{lo:Option Operand}{n id:Nat}{a:Int}{l r:List α}(hz:subZ l a (l.length:Int)=some r)(h1:Γ t=some i1)(h1':i1.desc=.slice e)(h2:Γ e=some i2)(hx:fr.ev x=some (.sv id n))(hn:n=l.length)(hlo:fr.bound lo 0=some a)
  (ho:hp[id]?=some (.rowv e i2.size l.length (l.flatMap enc))) (henc:∀ y,(enc y).length=i2.size) :
  OpS P N ⟨some d,.slice t x lo none none,ty,pos,after,gd'⟩ fr hp (.sv hp.length r.length) (hp.set id .dead++[.rowv e i2.size r.length (r.flatMap enc)]):=fun Z w M ac hr=>by
 obtain⟨u1,_⟩:=hΓ t _ h1
 rw[h1'] at u1
 have hs:=run_size' (P:=P) (w:=w) hΓ h2
 obtain⟨a',b',ea,eb,e1,e2,rfl⟩:=Kea hz
 subst ea
 obtain rfl:b'=l.length:=by omega
 have hrl:((l.take l.length).drop a').length=l.length - a':=by simp
 have hre:((l.take l.length).drop a').flatMap enc=(l.flatMap enc).drop (a' * i2.size):=by rw[List.take_length,Kel henc]
 rw[hrl,hre]
 have hvx:=hr.ev hx
 have hvv:ac.eval x=ac.eval x:=rfl
 simp only[execOp,Option.map_none]
 generalize ac.eval x=vx at hvx
 cases hvx with
 | svnil hM=>
  have h0:l.length=0:=hn.symm
  have ha0:a'=0:=by omega
  subst ha0
  have hb:(Instr.sliceBounds true 0 0 (lo.map ac.eval) none none).run P w=.ok (0,0,0) w:=Kcg (P:=P) (w:=w) hr (b:=true) (l:=0) (len:=0) (cap:=0) (hi:=none) hlo rfl (Nat.le_refl _) (Nat.le_refl _)
  obtain⟨k1,k2,k3⟩:=Knr (o':=.rowv e i2.size (l.length - 0) ((l.flatMap enc).drop (0 * i2.size))) (mo':=none) hr.heap ho rfl hM rfl (Nat.le_refl _) rfl rfl rfl (fun _ _ _=>rfl) (fun b c h=>by cases h) (fun O' _=>⟨by rw[List.eq_nil_of_length_eq_zero h0];simp,by omega⟩)
  refine⟨.slice none 0 0,w,M.app [none],by simp[Instr.sliceAt,Instr.slice,run_underlying u1,hb,hs],k1,?_,k2,k3⟩
  rw[h0]
  exact .svnil (by rw[←hr.heap.len];simp)
 | sv hM hnc hm=>
  rename_i b c
  subst hn
  have hb:(Instr.sliceBounds true l.length (vcap c) (lo.map ac.eval) none none).run P w=.ok (a',l.length,vcap c) w:=Kcg (P:=P) (w:=w) hr (b:=true) (l:=a') (len:=l.length) (cap:=vcap c) (hi:=none) hlo rfl e1 hnc
  obtain⟨hdl,cs,hbk,hcs,hnc',hcm,hcr⟩:=hr.heap.obj id _ _ ho hM
  have hle:a' * i2.size≤vcap c * i2.size:=Nat.mul_le_mul_right _ (by omega)
  have hvo:voff (vmk (if vcap c=a' then voff c else voff c+a' * i2.size) (vcap c - a'))=if vcap c=a' then voff c else voff c+a' * i2.size:=Knx (by omega)
  have hvc:vcap (vmk (if vcap c=a' then voff c else voff c+a' * i2.size) (vcap c - a'))=vcap c - a':=Kny (by omega)
  obtain⟨k1,k2,k3⟩:=Knr (o':=.rowv e i2.size (l.length - a') ((l.flatMap enc).drop (a' * i2.size))) (mo':=some (b,vmk (if vcap c=a' then voff c else voff c+a' * i2.size) (vcap c - a'))) hr.heap ho rfl hM rfl (Nat.le_refl _) rfl rfl rfl (fun _ _ _=>rfl) (fun b2 c2 h=>by cases h;exact .inl ⟨c,rfl⟩) (fun O' hst=>by
    refine⟨by rw[List.length_drop,hdl,Nat.sub_mul],cs,hbk,?_,?_,?_,fun j dd hj=>?_⟩
    ·rw[hvo,hvc,Nat.sub_mul]
     split
     ·rename_i hca;rw[hca];omega
     ·omega
    ·rw[hvc];omega
    ·rw[hvc];omega
    ·rw[List.getElem?_drop] at hj
     obtain⟨v,f1,f2⟩:=hcr _ dd hj
     have hjl:a' * i2.size+j<l.length * i2.size:=by rw[←hdl];exact(gEs.1 hj).1
     refine⟨v,?_,f2.step hst⟩
     rw[hvo]
     split
     ·rename_i hca
      have:l.length=a':=by omega
      rw[this] at hjl;omega
     ·rw[Nat.add_assoc];exact f1)
  refine⟨.slice (some ⟨b,if vcap c=a' then voff c else voff c+a' * i2.size,none⟩) (l.length - a') (vcap c - a'),w,_,?_,k1,?_,k2,k3⟩
  ·by_cases hc:vcap c=a'
   ·rw[hc] at hb ⊢;simp[Instr.sliceAt,Instr.slice,run_underlying u1,hb,hs]
   ·simp[Instr.sliceAt,Instr.slice,run_underlying u1,hb,hs,hc,Addr.add_lit];try omega
  ·have hMn:∀ q:Option (Nat×Nat),(M.app [q]).l[hp.length]?=some q:=fun q=>by rw[←hr.heap.len];simp
   have:=VR.sv (w:=w) (O:=ownZ Z (hp.set id .dead++[.rowv e i2.size (l.length - a') ((l.flatMap enc).drop (a' * i2.size))]) (M.app [some (b,vmk (if vcap c=a' then voff c else voff c+a' * i2.size) (vcap c - a'))])) (M:=M.app [some (b,vmk (if vcap c=a' then voff c else voff c+a' * i2.size) (vcap c - a'))]) (id:=hp.length) (n:=l.length - a') (hMn _) (by rw[hvc];omega) (by rw[hvc];omega)
   rw[hvo,hvc] at this
   exact this
theorem Knt(w:World)(t ty e:TypeId)(i:TypeInfo)(ht:P.underlying t=some (.slice e))(hi:P.info? e=some i)(b o sLen sCap:Nat)(cur:Array Value)(hg:w.heap[b]?=some (.cells cur e (0,0)))
  (a:Addr) (m c:Nat) (news:List Value) (hl:news.length=m * i.size) (hnews:∀ j u,news[j]?=some u→w.cell? (a.add j)=some u) (h1:∀ u∈news,u.oneCell'=true)
  (hroom:sLen+m≤sCap) (hfit:o+sLen * i.size+news.length≤cur.size) :
  (Builtin.append_ #[t,t] ty #[.slice (some ⟨b,o,none⟩) sLen sCap,.slice (some a) m c]).run P w =
   .ok (.slice (some ⟨b,o,none⟩) (sLen+m) sCap) (w.setRow b (setAt cur.toList (o+sLen * i.size) news).toArray):=by
 have hf:=run_firstCells_some (P:=P) w i.size m a m c news hl hnews
 have hst:=run_storeCells_at P b (o+sLen * i.size) e news 0 cur w hg (by simpa using hfit) h1
 simp only[Nat.add_zero] at hst
 simp[Builtin.append_,run_underlying ht,sizeOf,typeInfo,hi,Builtin.lenOf,hroom,hf,Addr.add_lit,hst,setAt]
theorem Knu{w:World}{t te tyo:TypeId}{inf:TypeInfo}{z:Value}{n m:Nat}{sv xv:Value}{cs0:Array Value}{news:List Value}(mo:Option (Nat×Nat))(hu:P.underlying t=some (.slice te))(hi:P.info? te=some inf)(hz:inf.zero=some z)(hzs:z.cells.size=inf.size)(hz0:0<inf.size)
  (hs:(mo=none∧sv=.slice none 0 0∧n=0)∨∃ b c,mo=some (b,c)∧sv=.slice (some ⟨b,voff c,none⟩) n (vcap c)∧w.heap[b]?=some (.cells cs0 te (0,0))∧voff c+vcap c * inf.size≤cs0.size∧n≤vcap c∧vcap c≤maxLen)
  (hx:(xv=.slice none 0 0∧m=0∧news=[])∨∃ b off cap,xv=.slice (some ⟨b,off,none⟩) m cap∧(∀ j u,news[j]?=some u→w.cell? ⟨b,off+j,none⟩=some u)) (hl:news.length=m * inf.size) (h1:∀ u∈news,u.oneCell'=true)
  (hm:n+m≤maxLen) (hb:(n+m) * inf.bytes≤140737488355328) :
  ∃ v' w' mo',(Builtin.append_ #[t,t] tyo #[sv,xv]).run P w=.ok v' w'∧w.heap.size≤w'.heap.size∧w'.os=w.os∧w'.tape=w.tape∧w'.output=w.output∧
   ((mo'=none∧v'=.slice none 0 0∧n+m=0∧w'=w∧mo=none)∨∃ b' c' cur,mo'=some (b',c')∧v'=.slice (some ⟨b',voff c',none⟩) (n+m) (vcap c')∧w'.heap[b']?=some (.cells cur te (0,0))∧voff c'+vcap c' * inf.size≤cur.size∧n+m≤vcap c'∧vcap c'≤maxLen∧
    (∀ b c,mo=some (b,c)→∀ j,j<n * inf.size→cur[voff c'+j]?=cs0[voff c+j]?)∧(∀ j u,news[j]?=some u→cur[voff c'+n * inf.size+j]?=some u)∧(∀ k,k<w.heap.size→k≠b'→w'.heap[k]?=w.heap[k]?)∧((∃ c,mo=some (b',c))∨b'=w.heap.size)):=by
 have hsmall:n+m≤9223372036854775807:=by simp only[maxLen] at hm;omega
 have hxc:∀ b off cap,xv=.slice (some ⟨b,off,none⟩) m cap→(∀ j u,news[j]?=some u→w.cell? ⟨b,off+j,none⟩=some u)→∀ j u,news[j]?=some u→w.cell? ((⟨b,off,none⟩:Addr).add j)=some u:=fun b off cap _ h j u hj=>by rw[Addr.add_lit];exact h j u hj
 have v0:∀ c,c≤maxLen→voff c=0∧vcap c=c:=fun c hc=>by
  have h1:=Knx (o:=0) hc
  have h2:=Kny (o:=0) hc
  have e:vmk 0 c=c:=by unfold vmk;omega
  rw[e] at h1 h2
  exact⟨h1,h2⟩
 rcases hx with⟨rfl,rfl,rfl⟩ | ⟨xb,xo,xc,rfl,hxcell⟩
 ·rcases hs with⟨rfl,rfl,rfl⟩ | ⟨b,c,rfl,rfl,hb',hcs,hnc,hcm⟩
  ·refine⟨.slice none 0 0,w,none,?_,Nat.le_refl _,rfl,rfl,rfl,.inl ⟨rfl,rfl,rfl,rfl,rfl⟩⟩
   simp[Builtin.append_,run_underlying hu,sizeOf,typeInfo,hi,Builtin.lenOf,Builtin.firstCells]
  ·refine⟨.slice (some ⟨b,voff c,none⟩) n (vcap c),w,some (b,c),?_,Nat.le_refl _,rfl,rfl,rfl,.inr ⟨b,c,cs0,rfl,rfl,hb',hcs,hnc,hcm,fun b2 c2 e j _=>by cases e;rfl,fun j u h=>by simp at h,fun _ _ _=>rfl,.inl ⟨c,rfl⟩⟩⟩
   simp[Builtin.append_,run_underlying hu,sizeOf,typeInfo,hi,Builtin.lenOf,Builtin.firstCells,hnc,storeCells]
 ·have hxc':=hxc xb xo xc rfl hxcell
  rcases hs with⟨rfl,rfl,rfl⟩ | ⟨b,c,rfl,rfl,hb',hcs,hnc,hcm⟩
  ·by_cases hm0:m=0
   ·subst hm0
    have hn:news=[]:=List.eq_nil_of_length_eq_zero (by simpa using hl)
    subst hn
    refine⟨.slice none 0 0,w,none,?_,Nat.le_refl _,rfl,rfl,rfl,.inl ⟨rfl,rfl,rfl,rfl,rfl⟩⟩
    simp[Builtin.append_,run_underlying hu,sizeOf,typeInfo,hi,Builtin.lenOf,Builtin.firstCells,loadCells,loadCellsFrom]
   ·have hr:=run_append_nil (P:=P) w t tyo te inf z hu hi hz ⟨xb,xo,none⟩ m xc news hl hxc' (by omega) (by omega) (by simp only[Nat.zero_add] at hb;omega)
    have hge:=grownCap_ge w m 0 te
    have hcm:grownCap w m 0 te≤maxLen:=grownCap_le_maxLen w m 0 te (by omega)
    obtain⟨q1,q2⟩:=v0 _ hcm
    refine⟨_,_,some (w.heap.size,grownCap w m 0 te),hr,by simp,rfl,rfl,rfl,.inr ⟨w.heap.size,_,_,rfl,by simp[q1,q2],heap_alloc_new w.drew _,?_,by rw[q2];omega,by rw[q2];omega,(fun b c h=>by cases h),fun j u hj=>?_,fun k hk hne=>Gk.Kbb w.drew _ k hk,.inr rfl⟩⟩
    ·rw[q1,q2]
     simp only[Array.size_append,List.size_toArray,size_zeroCells,hzs,hl,←Nat.add_mul]
     rw[Nat.zero_add]
     exact Nat.le_of_eq (by congr 1;omega)
    ·have hlt:j<news.length:=(gEs.1 hj).1
     rw[q1,Nat.zero_mul,Nat.zero_add,Array.getElem?_append_left (by simpa using hlt)]
     simpa using hj
  ·by_cases hroom:n+m≤vcap c
   ·have hmul:=Nat.mul_le_mul_right inf.size hroom
    rw[Nat.add_mul] at hmul
    have hfit:voff c+n * inf.size+news.length≤cs0.size:=by rw[hl];omega
    have hr:=Knt (P:=P) w t tyo te inf hu hi b (voff c) n (vcap c) cs0 hb' ⟨xb,xo,none⟩ m xc news hl hxc' h1 hroom hfit
    have hfit':voff c+n * inf.size+news.length≤cs0.toList.length:=by simpa using hfit
    refine⟨_,_,some (b,c),hr,by simp,rfl,rfl,rfl,.inr ⟨b,c,_,rfl,rfl,setRow_heap w b cs0 _ te _ hb',?_,hroom,hcm,fun b2 c2 e j hj=>?_,fun j u hj=>?_,fun k _ hne=>setRow_other w b k _ hne,.inl ⟨c,rfl⟩⟩⟩
    ·rw[List.size_toArray,Kqq hfit',Array.length_toList];exact hcs
    ·cases e
     rw[List.getElem?_toArray,Kqp hfit',if_neg (by omega)]
     simp
    ·have hlt:j<news.length:=(gEs.1 hj).1
     rw[List.getElem?_toArray,Kqp hfit',if_pos (by omega)]
     rw[show voff c+n * inf.size+j - (voff c+n * inf.size)=j by omega]
     exact hj
   ·have holds:∀ j u,((cs0.toList.drop (voff c)).take (n * inf.size))[j]?=some u→w.cell? ((⟨b,voff c,none⟩:Addr).add j)=some u:=fun j u hj=>by
     rw[Addr.add_lit,cell_of_row w b _ cs0 te _ hb']
     rw[List.getElem?_take] at hj
     split at hj
     ·rw[List.getElem?_drop] at hj;simpa using hj
     ·cases hj
    have hxl:((cs0.toList.drop (voff c)).take (n * inf.size)).length=n * inf.size:=by
     have:=Nat.mul_le_mul_right inf.size hnc
     rw[List.length_take,List.length_drop,Array.length_toList];omega
    have hr:=run_append_grow (P:=P) w t tyo te inf z hu hi hz ⟨b,voff c,none⟩ n (vcap c) ((cs0.toList.drop (voff c)).take (n * inf.size)) hxl holds ⟨xb,xo,none⟩ m xc news hl hxc' (by omega) (by omega) (growslice_fits (by omega) hb)
    have hge:=grownCap_ge w (n+m) (vcap c) te
    have hcm:grownCap w (n+m) (vcap c) te≤maxLen:=grownCap_le_maxLen w (n+m) (vcap c) te hm
    obtain⟨q1,q2⟩:=v0 _ hcm
    refine⟨_,_,some (w.heap.size,grownCap w (n+m) (vcap c) te),hr,by simp,rfl,rfl,rfl,.inr ⟨w.heap.size,_,_,rfl,by simp[q1,q2],heap_alloc_new w.drew _,?_,by rw[q2];exact hge,by rw[q2];exact hcm,fun b2 c2 e j hj=>?_,fun j u hj=>?_,fun k hk hne=>Gk.Kbb w.drew _ k hk,.inr rfl⟩⟩
    ·rw[q1,q2]
     simp only[Array.size_append,List.size_toArray,size_zeroCells,hzs,hl,hxl,←Nat.add_mul]
     rw[Nat.zero_add]
     exact Nat.le_of_eq (by congr 1;omega)
    ·cases e
     rw[q1,Nat.zero_add,Array.append_assoc,Array.getElem?_append_left (by simpa [hxl] using hj)]
     rw[List.getElem?_toArray,List.getElem?_take_of_lt hj,List.getElem?_drop]
     simp
    ·have hlt:j<news.length:=(gEs.1 hj).1
     rw[q1,Nat.zero_add,Array.append_assoc,Array.getElem?_append_right (by simp[hxl]),Array.getElem?_append_left (by simp[hxl];exact hlt)]
     simpa [hxl] using hj
theorem Knv(hΓ:TOK P Γ){t te:TypeId}{i1 i2:TI}{x y:Operand}{id n m:Nat}{ds ys:List D}(h1:Γ t=some i1)(h1':i1.desc=.slice te)(h2:Γ te=some i2)(hz:Nat.beq i2.zero.cells.size i2.size=true)(hz0:Nat.blt 0 i2.size=true)
  (hx:fr.ev x=some (.sv id n)) (ho:hp[id]?=some (.rowv te i2.size n ds)) (hy:fr.ev y=some (.d (.ro m ys))) (hl:ys.length=m * i2.size) (hb:(n+m) * i2.bytes≤140737488355328) (hm:n+m≤maxLen) :
  OpS P N ⟨some d,.call ⟨.builtin .append,#[x,y],#[t,t]⟩,ty,pos,after,gd'⟩ fr hp (.sv hp.length (n+m)) (hp.set id .dead++[.rowv te i2.size (n+m) (ds++ys)]):=by
 intro Z w M a hr
 obtain⟨u1,_⟩:=hΓ t _ h1
 rw[h1'] at u1
 obtain⟨_,inf,e1,e2,e3,e4⟩:=hΓ te _ h2
 have hid:id<hp.length:=(gEs.1 ho).1
 have hidM:id<M.l.length:=by rw[hr.heap.len];exact hid
 have hzs:i2.zero.cells.size=inf.size:=by rw[e2];exact nEq hz
 have hvx:=hr.ev hx
 have hvy:=hr.ev hy
 have hob:=hr.heap.obj id _ _ ho (gGe hidM)
 generalize hmo:M.l[id]=mo at hob
 have hMid:M.l[id]?=some mo:=by rw[gGe hidM,hmo]
 have hsrc:∃ news:List Value,((a.eval y=.slice none 0 0∧m=0∧news=[])∨∃ b off cap,a.eval y=.slice (some ⟨b,off,none⟩) m cap∧(∀ (j:Nat) (u:Value),news[j]?=some u→w.cell? ⟨b,off+j,none⟩=some u))∧
   news.length=ys.length∧(∀ (j:Nat) (u:Value) (d:D),news[j]?=some u→ys[j]?=some d→VD w (ownZ Z hp M) d u)∧∀ u∈news,u.oneCell'=true:=by
  cases hvy with
  | d hd=>
   rcases Kbc hd with⟨e,rfl,rfl⟩ | ⟨b,off,cap,vs,e,hl,hc,hv,h1⟩
   ·exact⟨[],.inl ⟨e,rfl,rfl⟩,rfl,fun j u d h=>by simp at h,fun u h=>by cases h⟩
   ·exact⟨vs,.inr ⟨b,off,cap,e,hc⟩,hl,hv,h1⟩
 obtain⟨news,hsrc1,hsrc2,hsrc3,hsrc4⟩:=hsrc
 have hrow:∃ cs0:Array Value,((mo=none∧a.eval x=.slice none 0 0∧n=0)∨∃ b c,mo=some (b,c)∧a.eval x=.slice (some ⟨b,voff c,none⟩) n (vcap c)∧w.heap[b]?=some (.cells cs0 te (0,0))∧voff c+vcap c * inf.size≤cs0.size∧n≤vcap c∧vcap c≤maxLen)∧
   (mo=none→ds=[])∧ds.length=n * inf.size∧(∀ b c,mo=some (b,c)→∀ (j:Nat) (d:D),ds[j]?=some d→∃ v:Value,cs0[voff c+j]?=some v∧VD w (ownZ Z hp M) d v):=by
  cases mo with
  | none=>
   obtain⟨rfl,rfl⟩:=hob
   refine⟨#[],.inl ⟨rfl,?_,rfl⟩,fun _=>rfl,by simp,fun b c h=>by cases h⟩
   generalize a.eval x=vx at hvx
   cases hvx with
   | sv h _ _=>rw[hMid] at h;cases h
   | svnil h=>rfl
  | some bc=>
   obtain⟨b,c⟩:=bc
   obtain⟨hdl,cs,hb,hcs,hnc,hcm,hcr⟩:=hob
   refine⟨cs,.inr ⟨b,c,rfl,?_,hb,by rw[e2];exact hcs,hnc,hcm⟩,(fun h=>by cases h),by rw[hdl,e2],fun b2 c2 e=>by cases e;exact hcr⟩
   generalize a.eval x=vx at hvx
   cases hvx with
   | sv h _ _=>rw[hMid] at h;cases h;rfl
   | svnil h=>rw[hMid] at h;cases h
 obtain⟨cs0,hrow1,hrow2,hrow3,hrow4⟩:=hrow
 obtain⟨v',w',mo',hrun,g1,g2,g3,g4,hres⟩:=Knu (P:=P) (tyo:=ty) mo u1 e1 e4 hzs (by rw[e2];exact nblt.1 hz0) hrow1 hsrc1 (by rw[hsrc2,hl,e2]) hsrc4 hm (by rw[e3];exact hb)
 have hrow0:∀ (ds':List D) (O':Ow),(∀ b' c',mo'=some (b',c')→ds'=ds++ys)→True:=fun _ _ _=>trivial
 obtain⟨k1,k2,k3⟩:=Knr (o':=.rowv te i2.size (n+m) (ds++ys)) (mo':=mo') (w':=w') hr.heap ho rfl hMid rfl g1 g2 g3 g4
  (fun k hk hne=>by
   rcases hres with⟨_,_,_,rfl,_⟩ | ⟨b',c',cur,r1,r2,r3,r4,r5,r6,r7,r8,r9,r10⟩
   ·rfl
   ·exact r9 k hk (hne b' c' r1))
  (fun b c' e=>by
   rcases hres with⟨r1,_⟩ | ⟨b',c2,cur,r1,r2,r3,r4,r5,r6,r7,r8,r9,r10⟩
   ·rw[r1] at e;cases e
   ·rw[r1] at e
    cases e
    exact r10.imp (fun h=>h) fun h=>Nat.le_of_eq h.symm)
  (fun O' hst=>by
   rcases hres with⟨rfl,r2,r3,r4,rfl⟩ | ⟨b',c',cur,rfl,r2,r3,r4,r5,r6,r7,r8,r9,r10⟩
   ·have:ds=[]:=hrow2 rfl
    have hm0:m=0:=by omega
    subst hm0
    have:ys=[]:=List.eq_nil_of_length_eq_zero (by simpa using hl)
    subst this
    exact⟨by simp[*],r3⟩
   ·refine⟨by rw[List.length_append,hrow3,hl,e2,Nat.add_mul],cur,r3,by rw[e2] at r4;exact r4,r5,r6,fun j dd hj=>?_⟩
    by_cases hjn:j<ds.length
    ·rw[gAl hjn] at hj
     cases mo with
     | none=>have:=hrow2 rfl;subst this;simp at hjn
     | some bc=>
      obtain⟨b0,c0⟩:=bc
      obtain⟨v,f1,f2⟩:=hrow4 b0 c0 rfl j dd hj
      exact⟨v,by rw[r7 b0 c0 rfl j (by rw[←hrow3];exact hjn)];exact f1,f2.step hst⟩
    ·rw[gAr (by omega)] at hj
     have hlt:j - ds.length<news.length:=by rw[hsrc2];exact(gEs.1 hj).1
     have hn:=gGe hlt
     refine⟨news[j - ds.length],?_,(hsrc3 _ _ dd hn hj).step hst⟩
     have:=r8 _ _ hn
     rw[←hrow3] at this
     rw[←this]
     congr 1
     omega)
 refine⟨v',w',M.app [mo'],?_,k1,?_,k2,k3⟩
 ·simp[execOp,resolve,invoke,builtin,hrun]
 ·have hMnew:(M.app [mo']).l[hp.length]?=some mo':=by rw[←hr.heap.len];simp
  rcases hres with⟨rfl,rfl,r3,r4,rfl⟩ | ⟨b',c',cur,rfl,rfl,r3,r4,r5,r6,r7,r8,r9,r10⟩
  ·rw[r3];exact .svnil hMnew
  ·exact .sv hMnew r5 r6
theorem Knw(hΓ:TOK P Γ){t te:TypeId}{i1 i2:TI}{x y:Operand}{id n:Nat}{l m r:List α}(hz:apd l m=some r)(h1:Γ t=some i1)(h1':i1.desc=.slice te)(h2:Γ te=some i2)(hzc:Nat.beq i2.zero.cells.size i2.size=true)(hz0:Nat.blt 0 i2.size=true)
  (hx:fr.ev x=some (.sv id n)) (hn:n=l.length) (ho:hp[id]?=some (.rowv te i2.size l.length (l.flatMap enc))) (hy:fr.ev y=some (.d (Sl enc m))) (henc:∀ y,(enc y).length=i2.size) (hbytes:Nat.ble (4294967296 * i2.bytes) 140737488355328=true) :
  OpS P N ⟨some d,.call ⟨.builtin .append,#[x,y],#[t,t]⟩,ty,pos,after,gd'⟩ fr hp (.sv hp.length r.length) (hp.set id .dead++[.rowv te i2.size r.length (r.flatMap enc)]):=by
 obtain⟨rfl,hle⟩:=Keb hz
 subst hn
 have hb:=nBe hbytes
 have hmul:(l.length+m.length) * i2.bytes≤4294967296 * i2.bytes:=Nat.mul_le_mul_right _ hle
 have:=Knv (P:=P) (N:=N) (d:=d) (ty:=ty) (pos:=pos) (after:=after) (gd':=gd') hΓ h1 h1' h2 hzc hz0 hx ho hy (Kem henc m) (by omega) (by simp only[maxLen];omega)
 rw[List.length_append,List.flatMap_append]
 exact this
end
end Go.Gk
