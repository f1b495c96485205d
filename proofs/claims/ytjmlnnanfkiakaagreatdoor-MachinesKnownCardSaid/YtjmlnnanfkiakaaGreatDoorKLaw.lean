import Derived.Test.YtjmlnnanfkiakaaGreatDoorKMach
set_option linter.all false
set_option maxRecDepth 100000
namespace Go.Gk
theorem Kti(l:List Str):Lgn l l=some true:=by
 have key:Ok (Lgn l l) fun r=>r=true:=by
  unfold Lgn
  refine ok_f (by simp) ?_
  refine Lac (Laj (fun _ (_:Unit)=>True) (fun _=>False) trivial fun i x st hx _=>?_) fun r hr=>?_
  ·refine Lal (j:=i) rfl hx (ok_f (by simp) (Lab trivial))
  cases r with
  | out q=>exact hr.elim
  | go s=>exact Lab rfl
 obtain⟨r,h,rfl⟩:=key
 exact h
theorem Ktj(m:Lcb):Lgo m m=some true:=by
 unfold Lgo
 rw[Kti]
 simp
theorem Ktk(m:Lce):Lgv m m=some true:=by
 unfold Lgv
 rw[Kti]
 simp
theorem Ktl(l:List Lcb):Lgp l l=some true:=by
 have key:Ok (Lgp l l) fun r=>r=true:=by
  unfold Lgp
  refine ok_f (by simp) ?_
  refine Lac (Laj (fun _ (_:Unit)=>True) (fun _=>False) trivial fun i x st hx _=>?_) fun r hr=>?_
  ·refine Lal (j:=i) rfl hx (Lad (Ktj x) (ok_f rfl (Lab trivial)))
  cases r with
  | out q=>exact hr.elim
  | go s=>exact Lab rfl
 obtain⟨r,h,rfl⟩:=key
 exact h
theorem Ktm(l:List Lce):Lgw l l=some true:=by
 have key:Ok (Lgw l l) fun r=>r=true:=by
  unfold Lgw
  refine ok_f (by simp) ?_
  refine Lac (Laj (fun _ (_:Unit)=>True) (fun _=>False) trivial fun i x st hx _=>?_) fun r hr=>?_
  ·refine Lal (j:=i) rfl hx (Lad (Ktk x) (ok_f rfl (Lab trivial)))
  cases r with
  | out q=>exact hr.elim
  | go s=>exact Lab rfl
 obtain⟨r,h,rfl⟩:=key
 exact h
def oneF(f:Int)(bz:Bool):Int:=if f≠0 then f else bif !bz then 1 else 0
def twoF(f:Int)(bk bz:Bool):Int:=if f≠0 then f else bif !bk then 5 else bif !bz then 1 else 0
section
variable{d:Lbx}{l:List Lby}{z f:Int}{bz bk:Bool}{al:BagT}
theorem Ktn(hf:Leq 400 d l=some f)(hz:Lec z=some bz)(h:oneF f bz≠0):Lfl 400 d l z al=some (none,oneF f bz,al):=by
 unfold Lfl
 rw[hf,bi_some]
 unfold oneF at h ⊢
 by_cases h0:f=0
 ·subst h0
  simp only[ne_eq,not_true,if_false,bne_self_eq_false,cond_false] at h ⊢
  rw[hz,bi_some]
  cases bz with
  | true=>simp at h
  | false=>rfl
 have hb:(f != 0)=true:=by simpa using h0
 rw[hb,cond_true,if_pos h0]
theorem Kto(hf:Leq 400 d l=some f)(hz:Lec z=some bz)(h:oneF f bz=0)(hl:AllV l)(hlen:l.length≤999)(hb:BagOk al):∃ n al',Lfl 400 d l z al=some (some n,0,al')∧RN n al' (upA d l z) l.length:=by
 unfold oneF at h
 by_cases h0:f=0
 ·subst h0
  cases bz with
  | false=>simp at h
  | true=>
   obtain⟨n,al',h1,h2⟩:=Kce (d:=d) hl (by omega) z hb
   refine⟨n,al',?_,h2⟩
   unfold Lfl
   rw[hf,bi_some]
   simp only[bne_self_eq_false,cond_false]
   rw[hz,bi_some]
   simp only[Bool.not_true,cond_false]
   rw[h1];rfl
 rw[if_pos h0] at h;exact absurd h h0
theorem Ktp(hf:Leq 400 d l=some f)(hz:Lec z=some bz)(hl:f=0→AllV l)(hlen:l.length≤999)(hb:BagOk al) :
  ∃ a al',Lfo 400 d l z al=some (a,oneF f bz,al')∧BagOk al'∧(oneF f bz≠0→a=[])∧(oneF f bz=0→a=(upA d l z).th.map (·.2)):=by
 unfold Lfo
 by_cases h:oneF f bz=0
 ·have hf0:f=0:=by
   unfold oneF at h
   by_cases h0:f=0
   ·exact h0
   ·rw[if_pos h0] at h;exact h
  have hv:=hl hf0
  obtain⟨n,al',h1,h2⟩:=Kto hf hz h hv hlen hb
  have hF:Fit (upA d l z):=Ktg (Ktw hv)
  refine⟨_,al',?_,h2.bag,fun g=>absurd h g,fun _=>rfl⟩
  rw[h1,bi_some]
  simp only[bne_self_eq_false,cond_false]
  rw[Kty h2 hF,bi_some,h]
 ·refine⟨[],al,?_,hb,fun _=>rfl,fun g=>absurd g h⟩
  rw[Ktn hf hz h,bi_some]
  have hb2:(oneF f bz != 0)=true:=by simpa using h
  simp only[hb2,cond_true]
theorem Ktq(hf:Leq 400 d l=some f)(hz:Lec z=some bz)(hl:f=0→AllV l)(hlen:l.length≤999)(hb:BagOk al) :
  ∃ a al',Lfq 400 d l z al=some (a,oneF f bz,al')∧BagOk al'∧(oneF f bz≠0→a=[])∧(oneF f bz=0→a=(upA d l z).ps.map fun e=>joinOf z e.2):=by
 unfold Lfq
 by_cases h:oneF f bz=0
 ·have hf0:f=0:=by
   unfold oneF at h
   by_cases h0:f=0
   ·exact h0
   ·rw[if_pos h0] at h;exact h
  have hv:=hl hf0
  obtain⟨n,al',h1,h2⟩:=Kto hf hz h hv hlen hb
  have hF:Fit (upA d l z):=Ktg (Ktw hv)
  refine⟨_,al',?_,h2.bag,fun g=>absurd h g,fun _=>rfl⟩
  rw[h1,bi_some]
  simp only[bne_self_eq_false,cond_false]
  have hpl:n.passes.length≤3:=by
   have:=hF.psn
   rw[←h2.ps,Kbo] at this
   exact this
  have hkeys:∀ e∈n.passes,e.1∈jnT:=fun e he=>hF.k.ps (e.1,(hGet al'.2.1 e.2).getD pass0) (by rw[←h2.ps];exact List.mem_map.2 ⟨e,he,rfl⟩)
  rw[Kun h2.ph.sm,Kth hkeys (by omega) Ktf,gd_true]
  refine Kys (r:=(upA d l z).ps.map fun e=>joinOf z e.2) ?_ (by rw[h])
  have key:Ok (rangeF (σ:=List Lce) (fun i12 x14 s13=>gd (Nat.blt 0 ((mGet n.passes x14).getD 0)) (bi (hGet al'.2.1 ((mGet n.passes x14).getD 0)) fun m25=>gd (Nat.blt 0 ((mGet n.passes x14).getD 0)) (bi (hGet al'.2.1 ((mGet n.passes x14).getD 0)) fun m29=>gd (Nat.blt 0 ((mGet n.passes x14).getD 0)) (bi (hGet al'.2.1 ((mGet n.passes x14).getD 0)) fun m33=>bi (bif m33.revoked then(some true) else(gd (Nat.blt 0 ((mGet n.passes x14).getD 0)) (bi (hGet al'.2.1 ((mGet n.passes x14).getD 0)) fun m41=>some (decide ((z:Int)≥m41.Join.Until))))) fun q35=>bi (bif q35 then(some 0) else(some (wi (m25.Join.Left - m29.used)))) fun q43=>bi (apd s13 [(⟨m25.Join.Key,m25.Join.By,m25.Join.Tags,m25.Join.Until,q43,m25.Join.Ready⟩:Lce)]) fun y47=>some y47)))) 0 (n.passes.map (·.1)) ([]:List Lce)) fun r=>r=(upA d l z).ps.map fun e=>joinOf z e.2:=by
   refine Lae (Lah (fun i (st:List Lce)=>st=((upA d l z).ps.map fun e=>joinOf z e.2).take i) rfl fun i k st hk hI=>?_) fun st hst=>?_
   ·rw[List.getElem?_map] at hk
    obtain⟨e,he,rfl⟩:=Option.map_eq_some_iff.1 hk
    obtain⟨x,g1,g2,g3,g4⟩:=Ktz pass0 h2.ph (List.mem_of_getElem? he)
    have hi:i<n.passes.length:=(List.getElem?_eq_some_iff.1 he).1
    have hg:Nat.blt 0 e.2=true:=Nat.ble_eq_true_of_le g3
    have hx:((upA d l z).ps.map fun e=>joinOf z e.2)[i]?=some (joinOf z x):=by
     rw[←h2.ps]
     unfold absH
     rw[List.getElem?_map,List.getElem?_map,he,Option.map_some,Option.map_some,g4]
    rw[g1]
    simp only[Option.getD_some,hg,gd_true,g2,bi_some]
    have hsl:st.length≤10:=by rw[hI];simp only[List.length_take];omega
    have happ:∀ x:Lce,apd st [x]=some (st++[x]):=fun x=>Kxu (by simp only[List.length_cons,List.length_nil];omega)
    rw[Kzy hx,←hI]
    unfold joinOf
    cases x.revoked with
    | true=>simp only[cond_true,bi_some,happ,Bool.true_or];exact Lab rfl
    | false=>
     simp only[cond_false,bi_some,Bool.false_or]
     cases decide (z≥x.Join.Until)<;>simp only[cond_true,cond_false,bi_some,happ]<;>exact Lab rfl
   ·rw[hst,List.take_of_length_le]
    rw[←h2.ps];simp[absH]
  obtain⟨r,h3,rfl⟩:=key
  exact h3
 ·refine⟨[],al,?_,hb,fun _=>rfl,fun g=>absurd g h⟩
  rw[Ktn hf hz h,bi_some]
  have hb2:(oneF f bz != 0)=true:=by simpa using h
  simp only[hb2,cond_true]
theorem Ktr{k:Str}(hf:Leq 400 d l=some f)(hz:Lec z=some bz)(hk:Ldy 400 k=some bk)(hl:f=0→AllV l)(hlen:l.length≤999)(hb:BagOk al) :
  ∃ m is al',Lfp 400 d l k z al=some (m,is,twoF f bk bz,al')∧BagOk al'∧(twoF f bk bz≠0→m=mac0∧is=false)∧(twoF f bk bz=0→m=(mGet (upA d l z).th k).getD mac0∧is=(mGet (upA d l z).th k).isSome):=by
 unfold Lfp twoF
 rw[hf,bi_some]
 by_cases h0:f=0
 ·subst h0
  simp only[bne_self_eq_false,cond_false,ne_eq,not_true,if_false]
  rw[hk,bi_some]
  cases bk with
  | false=>exact⟨mac0,false,al,rfl,hb,fun _=>⟨rfl,rfl⟩,fun g=>by simp at g⟩
  | true=>
   simp only[Bool.not_true,cond_false]
   rw[hz,bi_some]
   cases bz with
   | false=>exact⟨mac0,false,al,rfl,hb,fun _=>⟨rfl,rfl⟩,fun g=>by simp at g⟩
   | true=>
    simp only[Bool.not_true,cond_false]
    have hv:=hl rfl
    obtain⟨n,al',h1,h2⟩:=Kce (d:=d) hv (by omega) z hb
    have hF:Fit (upA d l z):=Ktg (Ktw hv)
    rw[h1,bi_some]
    simp only
    rw[h2.th]
    refine⟨_,_,al',Kys (Ktx (m:=(mGet (upA d l z).th k).getD mac0) ?_) rfl,h2.bag,fun g=>(g trivial).elim,fun _=>⟨rfl,rfl⟩⟩
    cases hm:mGet (upA d l z).th k with
    | none=>decide
    | some m=>exact(hF.inv.th _ _ hm).2.2.2
 ·have hb2:(f != 0)=true:=by simpa using h0
  rw[hb2,cond_true,if_pos h0]
  exact⟨mac0,false,al,rfl,hb,fun _=>⟨rfl,rfl⟩,fun g=>absurd g h0⟩
theorem Kts{k:Str}(hl:AllV l)(hlen:l.length≤1000)(hs:Srt l)(hb:BagOk al) :
  ∃ al',Lgz 400 d l k z al=some ((mGet (upA d l z).th k).getD mac0,(mGet (upA d l z).th k).isSome,al'):=by
 obtain⟨al',h1,h2⟩:=Kud (d:=d) hl hlen hs z hb
 have hF:Fit (upA d l z):=Ktg (Ktw hl)
 refine⟨al',?_⟩
 unfold Lgz
 rw[h1,bi_some]
 simp only
 rw[Kxg (fun x:Lcb=>(x.Node:Str)==k) (fun x=>(x,true,al')) _ 0 (fun j x=>by cases h:((x.Node:Str)==k)<;>rfl),Kuc hF]
 cases mGet (upA d l z).th k<;>rfl
end
theorem Ktt(a b c:Int):Ldv [a,b,c]=some (if a≠0 then a else if b≠0 then b else c):=by
 unfold Ldv
 by_cases ha:a=0
 ·subst ha
  by_cases hb:b=0
  ·subst hb
   by_cases hc:c=0
   ·subst hc;rfl
   have:(c != 0)=true:=by simpa using hc
   simp[rangeM,this,goI]
  have:(b != 0)=true:=by simpa using hb
  simp[rangeM,this,goI,hb]
 have:(a != 0)=true:=by simpa using ha
 simp[rangeM,this,goI,ha]
section
variable{l:List Int}{b:Int}{s:Lbv}
theorem Ktu(h:At l 0 b s)(hl:Smal l)(hb:b<4611686018427300000):Ok (Ldx s) fun r=>At l 0 (b+4) r.2:=by
 unfold Ldx
 refine Lac (Kaa h 300 hl (by omega) (by decide) (by decide)) fun y1 h1=>?_
 refine Lac (Kaa h1.2 300 hl (by omega) (by decide) (by decide)) fun y3 h3=>?_
 refine Lac (Kad h3.2 _ hl (by omega) (by decide) (by decide)) fun y5 h5=>?_
 refine Lac (Kad h5 _ hl (by omega) (by simp) (by simp)) fun y7 h7=>?_
 exact Lab (h7.up (Int.le_refl _) (by omega))
end
theorem Ktv{b:Bool}(h:b=true):(bif b then(bi (Lgy 400) fun y=>some y) else(some false))=some true:=by subst h;rfl
theorem MachinesKnown_true(l:List Int)(hl:l.length≤9223372036854775807):∃ al',Lha 400 l ([],[],[],[],[],[])=some (true,al'):=by
 have key:Ok (Lha 400 l ([],[],[],[],[],[])) fun r=>r.1=true:=by
  unfold Lha
  refine Lac (Kae (b:=0) (l:=l) ⟨rfl,Int.le_refl 0,Int.le_refl 0⟩ 0 14 hl (by decide) (by decide) (by decide) (by decide)) fun y1 h1=>?_
  refine Lac (Kdb h1.2 hl (by decide) y1.1 (by omega) (by omega)) fun y3 h3=>?_
  obtain⟨⟨hd,hs,hn,e,he,e2,he2,hf⟩,h3⟩:=h3
  refine Lac (Ktu h3 hl (by decide)) fun y5 h5=>?_
  refine Lac (Kac (P:=fun x=>x∈keyT) h5 _ hl (by decide) (by decide) (by decide) (by decide)) fun y7 h7=>?_
  have hb:BagOk (([],[],[],[],[],[]):BagT):=⟨fun e he=>(by cases he),fun e he=>(by cases he),fun e he=>(by cases he),fun e he=>(by cases he)⟩
  have hlog:=Kdg hd hs (by omega) he he2
  rw[←hf] at hlog
  have hgood:y3.1.fault=0→AllV y3.1.l∧Srt y3.1.l:=fun h0=>by
   have h02:e2=0:=by
    rw[h0] at hf
    by_cases g:e=0
    ·subst g;simpa using hf.symm
    simp[g] at hf
    exact absurd hf.symm g
   subst h02
   exact Kdf hs (by omega) he2
  obtain⟨bz,hz,hz'⟩:=Kyq y5.1
  obtain⟨bk,hk,hk'⟩:=Kyv _ h7.1
  obtain⟨a,al1,m1,hb1,a1,a2⟩:=Ktp (z:=y5.1) hlog hz (fun h=>(hgood h).1) (by omega) hb
  obtain⟨m,is,al2,m2,hb2,s1,s2⟩:=Ktr (z:=y5.1) (k:=y7.1) hlog hz hk (fun h=>(hgood h).1) (by omega) hb1
  obtain⟨j,al3,m3,hb3,j1,j2⟩:=Ktq (z:=y5.1) hlog hz (fun h=>(hgood h).1) (by omega) hb2
  refine Lad m1 (Lad m2 (Lad m3 ?_))
  have hmf:Lfr y5.1=some (bif !bz then 1 else 0):=by
   unfold Lfr
   rw[hz',bi_some]
   cases bz<;>rfl
  have hkf:Lfs y7.1=some (bif !bk then 5 else 0):=by
   unfold Lfs Ldn
   rw[hk',bi_some]
   cases bk<;>rfl
  refine Lad hmf (Lad (Kda _ _) (Lad hkf (Lad hmf (Lad (Ktt _ _ _) ?_))))
  have e1:(if y3.1.fault≠0 then y3.1.fault else bif !bz then 1 else 0)=oneF y3.1.fault bz:=rfl
  have e2:(if y3.1.fault≠0 then y3.1.fault else if (bif !bk then(5:Int) else 0)≠0 then(bif !bk then 5 else 0) else bif !bz then 1 else 0)=twoF y3.1.fault bk bz:=by
   unfold twoF
   by_cases h0:y3.1.fault=0
   ·have hn0:¬ (y3.1.fault≠0):=by simpa using h0
    rw[if_neg hn0,if_neg hn0]
    cases bk<;>simp
   rw[if_pos h0,if_pos h0]
  rw[e1,e2]
  refine ok_f ?_ ?_
  ·simp only[bne_self_eq_false,Bool.false_or]
   cases h0:(oneF y3.1.fault bz != 0) with
   | false=>rfl
   | true=>
    have hne:oneF y3.1.fault bz≠0:=by simpa using h0
    rw[a1 hne,j1 hne];rfl
  refine Lac (P:=fun q:BagT×Bool=>q.2=false∧BagOk q.1∧(twoF y3.1.fault bk bz=0→oneF y3.1.fault bz=0)) ?_ fun q hq=>?_
  ·have himp:twoF y3.1.fault bk bz=0→oneF y3.1.fault bz=0:=fun h=>by
    unfold twoF at h;unfold oneF
    by_cases h0:y3.1.fault=0
    ·rw[if_neg (by simpa using h0)] at h ⊢
     cases bk with
     | false=>cases h
     | true=>simpa using h
    rw[if_pos h0] at h;exact absurd h h0
   refine Laf (fun g=>?_) fun _=>Lab ⟨rfl,hb3,himp⟩
   have h0:oneF y3.1.fault bz=0:=by simpa using g
   have hf0:y3.1.fault=0:=by
    unfold oneF at h0
    by_cases h0':y3.1.fault=0
    ·exact h0'
    rw[if_pos h0'] at h0;exact h0
   obtain⟨hv,ho⟩:=hgood hf0
   obtain⟨al4,q1,hb4⟩:=Kud (d:=y3.1.d) hv (by omega) ho y5.1 hb3
   refine Lad q1 ?_
   rw[a2 h0]
   refine Lad (Ktl _) ?_
   obtain⟨al5,q2,hb5⟩:=Kuf (d:=y3.1.d) hv (by omega) ho y5.1 hb4
   refine Lac (P:=fun q:BagT×Bool=>q.2=false∧BagOk q.1) (ok_f rfl (Lad q2 ?_)) fun q hq=>Lab ⟨hq.1,hq.2,himp⟩
   rw[j2 h0]
   exact Lad (Ktm _) (Lab ⟨rfl,hb5⟩)
  refine ok_f hq.1 (Laf (fun g=>?_) fun g=>?_)
  ·have hne:twoF y3.1.fault bk bz≠0:=by simpa using g
   obtain⟨rfl,rfl⟩:=s1 hne
   refine Lad (r:=true) (by rw[show(⟨[],[],[],[],[],0,0,false⟩:Lcb)=mac0 from rfl,Ktj];rfl) (Lad (r:=true) (Ktv rfl) (Lab rfl))
  have h0:twoF y3.1.fault bk bz=0:=by simpa using g
  have h1:=hq.2.2 h0
  have hf0:y3.1.fault=0:=by
   unfold oneF at h1
   by_cases h0':y3.1.fault=0
   ·exact h0'
   rw[if_pos h0'] at h1;exact h1
  obtain⟨hv,ho⟩:=hgood hf0
  obtain⟨rfl,rfl⟩:=s2 h0
  obtain⟨al4,q1⟩:=Kts (d:=y3.1.d) (z:=y5.1) (k:=y7.1) hv (by omega) ho hq.2.1
  refine Lad q1 ?_
  refine Lad (r:=true) ?_ (Lad (r:=true) (Ktv rfl) (Lab rfl))
  simp only[beq_self_eq_true,cond_true]
  rw[Ktj];rfl
 obtain⟨⟨r,al'⟩,h,rfl⟩:=key
 exact⟨al',h⟩
end Go.Gk
