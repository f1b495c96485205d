import Derived.Test.YthhdojhbohfmnaaGreatDoorGk63
set_option linter.all false
namespace Go.Gk
section
variable{K V:Type}[BEq K][KLt K]
theorem Kpk{P:Program}{kt:TypeId}{kv:K→Value}{enc:V→List D}(hK:KeyP P kt kv)(k:K):∀ {a b:List (K×V)},a.map (fun e=>(kv e.1,enc e.2))=b.map (fun e=>(kv e.1,enc e.2))→(a.findIdx? fun e=>k==e.1)=b.findIdx? fun e=>k==e.1
 | [],[],_=>rfl
 | [],_ :: _,h=>by simp at h
 | _ :: _,[],h=>by simp at h
 | x :: a,y :: b,h=>by
  simp only[List.map_cons,List.cons.injEq,Prod.mk.injEq] at h
  have ih:=Kpk hK k h.2
  have e:(k==x.1)=(k==y.1):=by
   cases h1:k==x.1 with
   | true=>
    cases h2:k==y.1 with
    | true=>rfl
    | false=>exact absurd (by rw[←h.1.1,←hK.eq _ _ h1]) (hK.ne k y.1 h2)
   | false=>
    cases h2:k==y.1 with
    | false=>rfl
    | true=>exact absurd (by rw[h.1.1,←hK.eq _ _ h2]) (hK.ne k x.1 h1)
  rw[List.findIdx?_cons,List.findIdx?_cons,e,ih]
end
section
variable{P:Program}{Γ:TypeId→Option TI}{F N:Nat}{Q:GPost}{fr fr':Fr}{hp hp':List Ob}{ks:List Kt}
variable{d:Tmp}{op:Op}{ty:TypeId}{pos:String}{after:Array Edge}{gd:Option (Nat×Bool)}
variable{K V:Type}[BEq K][KLt K]{agg:Bool}{enc:V→List D}{kenc:K→List D}
theorem Kpl(hΓ:TOK P Γ){t kt et:TypeId}{i1 i3:TI}{x y:Operand}{id cl:Nat}{bs:List Nat}{hp2:List Ob}(m mr:List (K×V))(k:K)(z:V){gv:G}(h1:Γ t=some i1)(h1':i1.desc=.map kt et)(h3:Γ et=some i3)(hK:KeyP P kt (kD kenc))(hkV:∀ k,(kenc k).all D.isVal=true)
  (hx:fr.ev x=some (.map id)) (ho:hp[id]?=some (mObS (kD kenc) agg enc m (rawM (kD kenc) enc mr bs cl))) (hy:fr.ev y=some (kG kenc k)) (hz:ZDv agg (enc z) i3.zero) (hg:dG agg (enc ((mGet m k).getD z))=some gv) (hbl:bs.length=mr.length)
  (hhp:hp.set id (mObS (kD kenc) agg enc (mEnt m k z) (rawM (kD kenc) enc (entR mr k z) (entB mr bs cl k) (entC mr cl k)))=hp2):OpS P N ⟨some d,.mapEntry t x y,ty,pos,after,gd⟩ fr hp (.tup [gv,I (bornOf mr bs cl k)]) hp2:=fun Z w M a hr=>by
 subst hhp
 obtain⟨u1,_⟩:=hΓ t _ h1
 rw[h1'] at u1
 obtain⟨u3,inf,e1,e2,e3,e4⟩:=hΓ et _ h3
 have hvx:=hr.ev hx
 have hvy:=Kob hkV (hr.ev hy)
 simp only[execOp,hvy]
 generalize a.eval x=vx at hvx
 cases hvx with
 | map hM=>
  rename_i b c
  obtain⟨m',ms,cl',hA⟩:=Kmx hr.heap ho hM
  have m1:=hA.heap
  have m2:=hA.size
  have m3:=hA.born
  have m4:=hA.get
  have hraw:=hA.raw _ rfl
  simp only[Prod.mk.injEq] at hraw
  obtain⟨hr1,hr2,rfl⟩:=hraw
  have hml:mr.length=m'.length:=by have:=congrArg List.length hr1;simpa using this
  have hf:=hA.findP hK k
  have hc:=hK.check w false k
  have hfi:=Kpk hK k hr1
  have hfm:(m'.findIdx? fun e=>k==e.1)=none ↔ (m.findIdx? fun e=>k==e.1)=none:=⟨Knb hA.perm k,Knb hA.perm.symm k⟩
  have hgm:dG agg (enc ((mGet m' k).getD z))=some gv:=by rw[Koe hK.eq hA.perm hA.apart];exact hg
  rw[Kmy] at hgm
  have fin:∀ (w':World) (M':Mp) (hp':List Ob) (v:Value) (n:Nat),VR w' (ownZ Z hp' M') M' gv v→VR w' (ownZ Z hp' M') M' (.tup [gv,I (n:Int)]) (.tuple #[v,.int .i64 n]):=fun w' M' hp' v n hv=>.tup rfl fun j g u hg hu=>by
   match j with
   | 0=>cases hg;cases hu;exact hv
   | 1=>cases hg;cases hu;exact .d (.v _ rfl)
   | j+2=>cases hg
  cases hi:m'.findIdx? fun e=>k==e.1 with
  | none=>
   rw[hi] at hf hgm
   simp only[Option.bind_none,Option.getD_none] at hf hgm
   have hent:mEnt m k z=mIns k z m:=by unfold mEnt;rw[hfm.1 hi]
   have hR:entR mr k z=mr++[(k,z)]:=by unfold entR;rw[hfi,hi]
   have hB:entB mr bs cl k=bs++[cl]:=by unfold entB;rw[hfi,hi]
   have hC:entC mr cl k=cl+1:=by unfold entC;rw[hfi,hi]
   have hbo:bornOf mr bs cl k=cl:=by unfold bornOf;rw[hfi,hi]
   have hnk:∀ e∈m',kD kenc e.1≠kD kenc k:=fun e he hkv'=>hK.ne k e.1 (List.findIdx?_eq_none_iff.1 hi e he) hkv'
   rw[hent,hR,hB,hC,hbo]
   obtain⟨r1,r2⟩:=Kmu (o':=mObS (kD kenc) agg enc (mIns k z m) (rawM (kD kenc) enc (mr++[(k,z)]) (bs++[cl]) (cl+1))) (ob':=.map (ms.push { key:=kD kenc k,val:=i3.zero,born:=cl }) (cl+1)) hr.heap ho rfl hM (fun w' hst hh=>by
    refine⟨_,_,(m'++[(k,z)]).map fun e=>(kD kenc e.1,enc e.2),hh,?_,?_,fun raw h=>(by cases h;simp[hr1,hr2]),by simp[m2],⟨fun i j e e' hi hj hb=>?_,fun i e hi=>?_⟩,fun j k' ds hj=>?_⟩
    ·exact((hA.perm.append_right _).trans (Kmo k z m).symm).map _
    ·rw[List.pairwise_map,List.pairwise_append]
     exact⟨hA.apart,List.pairwise_singleton _ _,fun e he e' he'=>by obtain rfl:=List.mem_singleton.1 he';exact hnk e he⟩
    ·rw[Array.getElem?_push] at hi hj
     split at hi<;>split at hj
     ·omega
     ·cases hi;have:=m3.2 j e' hj;simp only at hb;omega
     ·cases hj;have:=m3.2 i e hi;simp only at hb;omega
     ·exact m3.1 i j e e' hi hj hb
    ·rw[Array.getElem?_push] at hi
     split at hi
     ·cases hi;simp
     ·have:=m3.2 i e hi;omega
    ·simp only[List.map_append,List.map_cons,List.map_nil] at hj
     rcases Kry hj with⟨hl,h'⟩ | ⟨hl,h'⟩
     ·rw[gMp] at h'
      obtain⟨x,hx,he⟩:=oMs.1 h'
      simp only[Prod.mk.injEq] at he
      obtain⟨rfl,rfl⟩:=he
      obtain⟨e,e1,e2,e3⟩:=m4 j x hx
      have hlt:=(aEs.1 e1).1
      exact⟨e,by rw[Array.getElem?_push_lt hlt,←Array.getElem?_eq_getElem hlt];exact e1,e2,e3.step hst⟩
     ·simp only[Prod.mk.injEq] at h'
      obtain⟨rfl,rfl⟩:=h'
      refine⟨{ key:=kD kenc k,val:=i3.zero,born:=cl },?_,rfl,hz _ _⟩
      rw[hl,List.length_map,←m2]
      simp) rfl
   refine⟨.tuple #[i3.zero,.int .i64 cl],_,M,?_,r1,fin _ _ _ _ _ ((hz _ _).vr hgm),r2,⟨Nat.le_of_eq hr.heap.len.symm,fun _ _=>rfl⟩⟩
   simp[Instr.mapEntry,run_underlying u1,MapKept.run_getObj_map m1,hc,hf,zeroValue,typeInfo,e1,e4,MapKept.run_setObj_map _ m1];rfl
  | some j=>
   rw[hi] at hf hgm
   have hj:j<m'.length:=(lFi.1 hi).1
   have hkj:(k==(m'[j]).1)=true:=(lFi.1 hi).2.1
   have hkj':=hK.eq _ _ hkj
   obtain⟨e,f1,f2,f3⟩:=m4 j _ (gGe hj)
   simp only[Option.bind_some,f1,Option.map_some,List.getElem?_eq_getElem hj,Option.getD_some] at hf hgm
   obtain⟨i,hi2⟩:∃ i,(m.findIdx? fun e=>k==e.1)=some i:=by
    cases h0:m.findIdx? fun e=>k==e.1 with
    | some i=>exact⟨i,rfl⟩
    | none=>rw[hfm.2 h0] at hi;cases hi
   have hent:mEnt m k z=m:=by unfold mEnt;rw[hi2]
   have hR:entR mr k z=mr:=by unfold entR;rw[hfi,hi]
   have hB:entB mr bs cl k=bs:=by unfold entB;rw[hfi,hi]
   have hC:entC mr cl k=cl:=by unfold entC;rw[hfi,hi]
   have hbo:bornOf mr bs cl k=e.born:=by
    unfold bornOf;rw[hfi,hi,hr2]
    have:ms.toList[j]?=some e:=by rw[Array.getElem?_toList];exact f1
    simp[List.getD,this]
   have hbits:Instr.sameBits 10000 e.key (kD kenc k)=true:=by rw[f2];exact hK.bits k _ hkj
   rw[hent,hR,hB,hC,hbo]
   obtain⟨r1,r2⟩:=Kmu (o':=mObS (kD kenc) agg enc m (rawM (kD kenc) enc mr bs cl)) (ob':=.map (ms.modify j fun e=>{ e with key:=kD kenc k }) cl) hr.heap ho rfl hM (fun w' hst hh=>by
    have hget:∀ (i:Nat) (e':MapEntry),(ms.modify j fun e=>{ e with key:=kD kenc k })[i]?=some e'→∃ e0,ms[i]?=some e0∧e'.born=e0.born:=fun i e' h=>by
     rw[Array.getElem?_modify] at h
     split at h
     ·obtain⟨e0,h0,rfl⟩:=oMs.1 h
      exact⟨e0,h0,rfl⟩
     ·exact⟨e',h,rfl⟩
    have hborn:(ms.modify j fun e=>{ e with key:=kD kenc k }).toList.map (·.born)=ms.toList.map (·.born):=by
     apply List.ext_getElem?
     intro n
     simp only[List.getElem?_map,Array.getElem?_toList,Array.getElem?_modify]
     split<;>(rename_i hn;first | (subst hn;cases ms[j]?<;>rfl) | rfl)
    refine⟨_,_,m'.map fun e=>(kD kenc e.1,enc e.2),hh,hA.perm.map _,(by rw[List.pairwise_map];exact hA.apart),fun raw h=>(by cases h;rw[hr1,hborn,←hr2]),by simp[m2],⟨fun i i' e1 e2 h1 h2 hb=>?_,fun i e1 h1=>?_⟩,fun i k' ds h=>?_⟩
    ·obtain⟨a1,b1,c1⟩:=hget i e1 h1
     obtain⟨a2,b2,c2⟩:=hget i' e2 h2
     exact m3.1 i i' a1 a2 b1 b2 (by rw[←c1,←c2];exact hb)
    ·obtain⟨a1,b1,c1⟩:=hget i e1 h1
     rw[c1];exact m3.2 i a1 b1
    ·rw[gMp] at h
     obtain⟨x,hx,he⟩:=oMs.1 h
     simp only[Prod.mk.injEq] at he
     obtain⟨rfl,rfl⟩:=he
     obtain⟨e1,g1,g2,g3⟩:=m4 i x hx
     by_cases hij:j=i
     ·subst hij
      rw[f1] at g1
      cases g1
      rw[gGe hj] at hx
      cases hx
      exact⟨{ e with key:=kD kenc k },by rw[Array.getElem?_modify,if_pos rfl,f1];rfl,by rw[←hkj'],g3.step hst⟩
     ·exact⟨e1,by rw[Array.getElem?_modify,if_neg hij];exact g1,g2,g3.step hst⟩) rfl
   refine⟨.tuple #[e.val,.int .i64 e.born],_,M,?_,r1,fin _ _ _ _ _ ((f3.step (Kpy Z r2)).vr hgm),r2,⟨Nat.le_of_eq hr.heap.len.symm,fun _ _=>rfl⟩⟩
   simp[Instr.mapEntry,run_underlying u1,MapKept.run_getObj_map m1,hc,hf,MapKept.run_setObj_map _ m1,f1,Instr.keyThatStays,hbits];rfl
theorem Kpm{kt t:TypeId}{x y z0:Operand}{id cl:Nat}{bs:List Nat}{hp2:List Ob}(m mr:List (K×V))(k:K)(z v:V){gv:G}(hK:KeyP P kt (kD kenc))(hx:fr.ev x=some (.map id))(ho:hp[id]?=some (mObS (kD kenc) agg enc (mEnt m k z) (rawM (kD kenc) enc (entR mr k z) (entB mr bs cl k) (entC mr cl k))))
  (hy:fr.ev y=some (I (bornOf mr bs cl k))) (hv:fr.ev z0=some gv) (hg:dG agg (enc v)=some gv) (hbl:bs.length=mr.length) (hhp:hp.set id (mOb (kD kenc) agg enc (mSet m k v))=hp2):OpU P N ⟨none,.entryStore t x y z0,ty,pos,after,gd⟩ fr hp hp2:=fun Z w M a hr=>by
 subst hhp
 have hvx:=hr.ev hx
 have hvz:=hr.ev hv
 simp only[execOp,hr.ev_v hy]
 generalize a.eval x=vx at hvx
 generalize a.eval z0=vz at hvz
 have hdz:DV w (ownZ Z hp M) agg (enc v) vz:=hvz.dv hg
 cases hvx with
 | map hM=>
  rename_i b c
  obtain⟨m',ms,cl',hA⟩:=Kmx hr.heap ho hM
  have m1:=hA.heap
  have m2:=hA.size
  have m3:=hA.born
  have m4:=hA.get
  have hraw:=hA.raw _ rfl
  simp only[Prod.mk.injEq] at hraw
  obtain⟨hr1,hr2,_⟩:=hraw
  obtain⟨i,y0,hR,hky,hB⟩:∃ (i:Nat) (y:K×V),(entR mr k z)[i]?=some y∧(k==y.1)=true∧(entB mr bs cl k)[i]?=some (bornOf mr bs cl k):=by
   unfold entR entB bornOf
   cases hi:mr.findIdx? fun e=>k==e.1 with
   | some i=>
    obtain⟨q1,q2,_⟩:=lFi.1 hi
    have hib:i<bs.length:=by omega
    exact⟨i,mr[i],gGe q1,q2,by show bs[i]?=some (bs.getD i 0);rw[List.getD_eq_getElem?_getD,gGe hib];rfl⟩
   | none=>exact⟨mr.length,(k,z),by simp,hK.refl k,by simp[←hbl]⟩
  have hml:(entR mr k z).length=m'.length:=by have:=congrArg List.length hr1;simpa using this
  have hil:i<m'.length:=by rw[←hml];exact(gEs.1 hR).1
  have hkv:kD kenc (m'[i]).1=kD kenc k:=by
   have h0:((entR mr k z).map (fun e=>(kD kenc e.1,enc e.2)))[i]?=some (kD kenc y0.1,enc y0.2):=by rw[gMp,hR];rfl
   rw[hr1,gMp,gGe hil] at h0
   simp only[Option.map_some,Option.some.injEq,Prod.mk.injEq] at h0
   rw[h0.1,hK.eq _ _ hky]
  obtain⟨e,f1,f2,f3⟩:=m4 i _ (gGe hil)
  have hbe:e.born=bornOf mr bs cl k:=by
   have h0:=hB
   rw[hr2,gMp,Array.getElem?_toList,f1] at h0
   exact oSi h0
  have his:i<ms.size:=(aEs.1 f1).1
  have hfind:ms.findIdx? (fun e=>(e.born:Int)==((bornOf mr bs cl k:Nat):Int))=some i:=by
   rw[Array.findIdx?_eq_some_iff_getElem]
   refine⟨his,?_,fun j hj=>?_⟩
   ·rw[Array.getElem?_eq_getElem his] at f1
    rw[oSi f1,hbe];simp
   ·have hjs:j<ms.size:=by omega
    simp only[beq_iff_eq,Int.natCast_inj]
    intro hc
    have:=m3.1 j i (ms[j]) e (Array.getElem?_eq_getElem hjs) f1 (by rw[hc,hbe])
    omega
  obtain⟨q1,q2⟩:=Kna (k,v) (gGe hil)
  have hperm:(m'.set i (k,v)).Perm (mSet m k v):=by
   refine q1.trans ?_
   have hme:m'[i]∈m':=List.getElem_mem hil
   cases hi:m.findIdx? fun e=>k==e.1 with
   | some j=>
    obtain⟨p1,p2,_⟩:=lFi.1 hi
    have hent:mEnt m k z=m:=by unfold mEnt;rw[hi]
    have hp0:=hA.perm
    rw[hent] at hp0
    obtain⟨s1,s2⟩:=Kna (k,v) (gGe p1)
    have hsame:m'[i]=m[j]:=hA.apart.one hme (hp0.mem_iff.2 (List.getElem_mem p1)) (by rw[hkv,←hK.eq _ _ p2])
    rw[hsame] at q2
    have:mSet m k v=m.set j (k,v):=by unfold mSet;rw[hi]
    rw[this]
    exact(((q2.symm.trans hp0).trans s2).cons_inv.cons _).trans s1.symm
   | none=>
    have hent:mEnt m k z=mIns k z m:=by unfold mEnt;rw[hi]
    have hp0:=hA.perm
    rw[hent] at hp0
    have hp1:m'.Perm ((k,z) :: m):=hp0.trans ((Kmo k z m).trans (List.perm_append_comm (l₁:=m) (l₂:=[(k,z)])))
    have hsame:m'[i]=(k,z):=hA.apart.one hme (hp1.mem_iff.2 (mCs ..)) (by rw[hkv])
    rw[hsame] at q2
    have:mSet m k v=mIns k v m:=by unfold mSet;rw[hi]
    rw[this]
    exact(((q2.symm.trans hp1).cons_inv).cons _).trans ((List.perm_append_comm (l₁:=[(k,v)]) (l₂:=m)).trans (Kmo k v m).symm)
  obtain⟨r1,r2⟩:=Kmu (o':=mOb (kD kenc) agg enc (mSet m k v)) (ob':=.map (ms.modify i fun e=>{ e with val:=vz }) cl') hr.heap ho rfl hM (fun w' hst hh=>by
   have hget:∀ (j:Nat) (e':MapEntry),(ms.modify i fun e=>{ e with val:=vz })[j]?=some e'→∃ e0,ms[j]?=some e0∧e'.born=e0.born:=fun j e' h=>by
    rw[Array.getElem?_modify] at h
    split at h
    ·obtain⟨e0,h0,rfl⟩:=oMs.1 h
     exact⟨e0,h0,rfl⟩
    ·exact⟨e',h,rfl⟩
   refine⟨_,_,(m'.set i (k,v)).map fun e=>(kD kenc e.1,enc e.2),hh,hperm.map _,?_,fun raw h=>(by cases h),by simp[m2],⟨fun i i' e1 e2 h1 h2 hb=>?_,fun i e1 h1=>?_⟩,fun j k' ds h=>?_⟩
   ·have hkeys:(m'.set i (k,v)).map (fun e=>kD kenc e.1)=m'.map (fun e=>kD kenc e.1):=by
     rw[List.map_set]
     apply List.ext_getElem?
     intro n
     rw[List.getElem?_set]
     split
     ·rename_i hn
      subst hn
      simp[hil,hkv]
     ·rfl
    rw[List.pairwise_map]
    have:=List.pairwise_map (f:=fun e:K×V=>kD kenc e.1) (R:=fun x y=>x≠y) (l:=m'.set i (k,v))
    rw[hkeys,List.pairwise_map] at this
    exact this.1 hA.apart
   ·obtain⟨a1,b1,c1⟩:=hget i e1 h1
    obtain⟨a2,b2,c2⟩:=hget i' e2 h2
    exact m3.1 i i' a1 a2 b1 b2 (by rw[←c1,←c2];exact hb)
   ·obtain⟨a1,b1,c1⟩:=hget i e1 h1
    rw[c1];exact m3.2 i a1 b1
   ·rw[gMp] at h
    obtain⟨x,hx,he⟩:=oMs.1 h
    simp only[Prod.mk.injEq] at he
    obtain⟨rfl,rfl⟩:=he
    by_cases hij:i=j
    ·subst hij
     rw[gSs hil] at hx
     cases hx
     exact⟨{ e with val:=vz },by rw[Array.getElem?_modify,if_pos rfl,f1];rfl,by rw[f2,hkv],hdz.step hst⟩
    ·rw[gSn hij] at hx
     obtain⟨e1,g1,g2,g3⟩:=m4 j x hx
     exact⟨e1,by rw[Array.getElem?_modify,if_neg hij];exact g1,g2,g3.step hst⟩) rfl
  refine⟨_,M,?_,r1,r2,⟨Nat.le_of_eq hr.heap.len.symm,fun _ _=>rfl⟩⟩
  simp[Instr.entryStore,MapKept.run_getObj_map m1,asInt,asIntOf,hfind,MapKept.run_setObj_map _ m1]
end
end Go.Gk
