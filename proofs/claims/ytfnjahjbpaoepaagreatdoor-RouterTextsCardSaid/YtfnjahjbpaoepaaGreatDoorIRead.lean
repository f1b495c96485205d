import Derived.Test.YtfnjahjbpaoepaaGreatDoorILoose
set_option linter.all false
set_option maxRecDepth 100000
namespace Go.Gk
def lows:Str:=[97,98,99,100,101,102,103,104,105,106,107,108,109,110,111,112,113,114,115,116,117,118,119,120,121,122]
def keys:Str:=[97,98,99,100,101,102,103,104,105,106,107,108,109,110,111,112,113,114,115,116,117,118,119,120,121,122,48,49,50,51,52,53,54,55,56,57,45,95]
def kB(i:Int)(c:UInt8):Bool:=(((decide (((c.toNat:Int):Int)≥97))&&(decide (((c.toNat:Int):Int)≤122)))||((decide ((i:Int)>0))&&((((decide (((c.toNat:Int):Int)≥48))&&(decide (((c.toNat:Int):Int)≤57)))||(((c.toNat:Int):Int)==45))||(((c.toNat:Int):Int)==95))))
theorem Kpn:∀ c:Fin 256,kB 0 (UInt8.ofNat c.val)=lows.contains (UInt8.ofNat c.val)∧kB 1 (UInt8.ofNat c.val)=keys.contains (UInt8.ofNat c.val)∧(lows.contains (UInt8.ofNat c.val)=true→keys.contains (UInt8.ofNat c.val)=true):=by decide +kernel
theorem Kpo(c:UInt8):kB 0 c=lows.contains c∧(lows.contains c=true→keys.contains c=true):=by
 have:=Kpn ⟨c.toNat,c.toNat_lt⟩
 rw[UInt8.ofNat_toNat] at this
 exact⟨this.1,this.2.2⟩
theorem Kpp(i:Nat)(h:0<i)(c:UInt8):kB (i:Int) c=keys.contains c:=by
 have:=(Kpn ⟨c.toNat,c.toNat_lt⟩).2.1
 rw[UInt8.ofNat_toNat] at this
 rw[←this]
 unfold kB
 rw[dT (show(i:Int)>0 by omega),dT (show(1:Int)>0 by decide)]
def kLoop(s:Str)(s2:Int):Option (LS Int (Unit ⊕ Bool)):=bif decide ((s2:Int)<(s.length:Int)) then(bi (getZ s s2) fun c12=>bif !(kB s2 c12) then(bi (some false) fun v=>some (.out (.inr v))) else(some (.go (wi (s2+1))))) else(some (.out (.inl ())))
theorem Kpq(k:Nat)(s:Str):Lar k s=bi (loopM (kLoop s) k 0) fun q=>orI q fun a6=>some ((!((s:Str)==[]))&&(decide (((s.length:Int):Int)≤40))):=rfl
theorem Kpr(s:Str)(hl:s.length≤100000)(i:Nat)(hi:i<s.length):kLoop s (i:Int)=some (if kB (i:Int) s[i] then .go ((i+1:Nat):Int) else .out (.inr false)):=by
 have hg:getZ s (i:Int)=some s[i]:=Kwn (gGe hi)
 unfold kLoop
 rw[dT (show(i:Int)<(s.length:Int) by omega),cond_true,Kov hg,Kvu (by omega) (by omega)]
 cases kB (i:Int) s[i]<;>rfl
theorem Kps(s:Str):kLoop s (s.length:Int)=some (.out (.inl ())):=by
 unfold kLoop
 rw[dF (show ¬ (s.length:Int)<(s.length:Int) by omega)]
 rfl
theorem Kpt(s:Str)(hl:s.length≤100000):∀ (n k i:Nat),n=s.length - i→0<i→i≤s.length→n<k→loopM (kLoop s) k (i:Int)=some (if (s.drop i).all (fun c=>keys.contains c) then .inl () else .inr false)
 | n,0,i,_,_,_,h=>absurd h (Nat.not_lt_zero _)
 | n,k+1,i,hn,h0,hi,hk=>by
  by_cases he:i<s.length
  ·have hdr:s.drop i=s[i] :: s.drop (i+1):=List.drop_eq_getElem_cons he
   have hstep:=Kpr s hl i he
   rw[Kpp i h0] at hstep
   rw[hdr,List.all_cons]
   cases hD:keys.contains s[i] with
   | false=>
    rw[hD] at hstep
    exact Knz _ hstep
   | true=>
    rw[hD] at hstep
    rw[Kny _ hstep,Bool.true_and]
    exact Kpt s hl (n - 1) k (i+1) (by omega) (by omega) (by omega) (by omega)
  have:i=s.length:=by omega
  subst this
  rw[List.drop_length]
  exact Knz _ (Kps s)
def keyB(s:Str):Bool:=decide (1≤s.length∧s.length≤40)&&((s.take 1).all (fun c=>lows.contains c)&&s.all (fun c=>keys.contains c))
theorem keyP(s:Str)(hs:s.length≤3900):Lar 4000 s=some (keyB s):=by
 rw[Kpq]
 cases s with
 | nil=>rfl
 | cons c t=>
  have h1:kLoop (c :: t) 0=some (if lows.contains c=true then .go ((1:Nat):Int) else .out (.inr false)):=by
   refine(Kpr (c :: t) (by omega) 0 (by simp)).trans ?_
   show some (if kB 0 c=true then LS.go ((1:Nat):Int) else LS.out (Sum.inr false))=_
   rw[(Kpo c).1]
  unfold keyB
  simp only[List.take_succ_cons,List.take_zero,List.all_cons,List.all_nil,Bool.and_true]
  cases hc:lows.contains c with
  | false=>
   rw[hc] at h1
   rw[Kov (Knz _ h1),Bool.false_and,Bool.and_false]
   rfl
  | true=>
   rw[hc] at h1
   have h2:=Kpt (c :: t) (by omega) ((c :: t).length - 1) 3999 1 rfl (by decide) (by simp) (by omega)
   rw[List.drop_one,List.tail_cons] at h2
   rw[Kov ((Kny _ h1).trans h2),(Kpo c).2 hc,Bool.true_and,Bool.true_and]
   cases t.all fun c=>keys.contains c with
   | false=>rw[Bool.and_false];rfl
   | true=>
    rw[Bool.and_true]
    show some ((!((c :: t:Str)==[]))&&(decide ((((c :: t).length:Int):Int)≤40)))=_
    rw[Knk,dF (show ¬ (c :: t).length=0 by simp)]
    congr 1
    rw[Bool.not_false,Bool.true_and]
    refine decide_eq_decide.2 ?_
    simp only[List.length_cons]
    omega
theorem keyR(s:Str)(hs:s.length≤3900):Lbo s=some (keyB s):=by
 unfold Lbo keyB
 rw[Kov (Kyy _ 1 40)]
 by_cases h:1≤s.length∧s.length≤40
 ·rw[dT h,dT (show(1:Int)≤(s.length:Int)∧(s.length:Int)≤40 by omega),cond_true]
  have h1:subZ s 0 1=some (s.take 1):=by
   have:=Kwm (l:=s) (i:=0) (j:=1) (by decide) h.1
   simpa using this
  have h2:=Krp (s.take 1) lows (by simp;omega) (by decide)
  have h3:=Krp s keys (by omega) (by decide)
  rw[Kov h1]
  rw[show Lbn (s.take 1) [97,98,99,100,101,102,103,104,105,106,107,108,109,110,111,112,113,114,115,116,117,118,119,120,121,122]=_ from h2]
  cases (s.take 1).all fun c=>lows.contains c with
  | false=>rfl
  | true=>
   simp only[bi_some,cond_true,Bool.true_and]
   rw[show Lbn s [97,98,99,100,101,102,103,104,105,106,107,108,109,110,111,112,113,114,115,116,117,118,119,120,121,122,48,49,50,51,52,53,54,55,56,57,45,95]=_ from h3]
   rfl
 rw[dF h,dF (show ¬ ((1:Int)≤(s.length:Int)∧(s.length:Int)≤40) by omega)]
 rfl
theorem Kpu(s t:Str):Ktj s t=some (Lib.compareBytes s t):=rfl
def okT(l:List Kzq):Prop:=(∀ x∈l,AOk x.Prefix.Addr∧x.Node.length≤3900)∧l.length≤100000
theorem Lhu(l:List Kzq)(h:okT l):∃ e,Lbb 4000 l=some e∧Lbu 4000 l=some e∧(e=0→l.length≤500∧∀ x∈l,pfA x.Prefix=0∧keyB x.Node=true∧0≤x.Weight∧x.Weight≤1000):=by
 unfold Lbb Lbu
 by_cases hl:l.length>500
 ·rw[dT (show(l.length:Int)>500 by omega)]
  exact⟨2,rfl,rfl,fun h=>by cases h⟩
 rw[dF (show ¬ (l.length:Int)>500 by omega)]
 simp only[cond_false]
 generalize hf:(fun (i3:Nat) (x5:Kzq) (s4:Unit)=>bi (Laq x5.Prefix) fun y14=>_)=f
 generalize hg:(fun (i3:Nat) (x5:Kzq) (s4:Unit)=>bi (Lbm 4000 x5.Prefix) fun y14=>_)=g
 have key:=Kwh (f:=f) (g:=g)
  l (fun i (_ _:Unit)=>∀ j x,j<i→l[j]?=some x→pfA x.Prefix=0∧keyB x.Node=true∧0≤x.Weight∧x.Weight≤1000)
  (fun (r q:Int)=>r=q∧r≠0) ?_ l 0 () () rfl (fun j x hj=>absurd hj (Nat.not_lt_zero _))
 ·rcases key with⟨s',t',e1,e2,h1⟩ | ⟨r,q,e1,e2,rfl,hr⟩
  ·rw[e1,e2]
   refine⟨0,rfl,rfl,fun _=>⟨by omega,fun x hx=>?_⟩⟩
   obtain⟨j,hj⟩:=List.getElem?_of_mem hx
   exact h1 j x (by have:=(gEs.1 hj).1;omega) hj
  rw[e1,e2]
  exact⟨r,rfl,rfl,fun h0=>absurd h0 hr⟩
 rintro i x ⟨⟩ ⟨⟩ hx g1
 subst hf
 subst hg
 have hil:i<l.length:=(gEs.1 hx).1
 obtain⟨hax,hnx⟩:=h.1 x (mOg hx)
 have hord:∃ q,(bif decide (((i:Int):Int)>0) then(bi (getZ l (wi ((i:Int) - 1))) fun x35=>bi (Lba x35 x) fun y37=>some (decide ((y37:Int)≥0))) else(some false))=some q∧
   (bif decide (((i:Int):Int)>0) then(bi (getZ l (wi ((i:Int) - 1))) fun x35=>bi (Lbt 4000 x35.Prefix x.Prefix) fun y37=>bi (getZ l (wi ((i:Int) - 1))) fun x39=>bi (Ktj x39.Node x.Node) fun y41=>bi (Lau [y37,y41]) fun y43=>some (decide ((y43:Int)≥0))) else(some false))=some q:=by
  by_cases h0:i=0
  ·subst h0;exact⟨false,rfl,rfl⟩
  ·rw[dT (show(i:Int)>0 by omega)]
   have w1:wi ((i:Int) - 1)=((i - 1:Nat):Int):=by rw[Kvu (by omega) (by omega)];omega
   have e1:l[i - 1]?=some l[i - 1]:=gGe (by omega)
   have hay:=(h.1 _ (mOg e1)).1
   rw[w1,Kwn e1]
   unfold Lba
   simp only[cond_true,bi_some,Kyu hay hax,Kyv hay hax 4000 (by decide),Kpu,Kys]
   exact⟨_,rfl,rfl⟩
 simp only[Kza hax,Kzf hax 4000 (by decide),bi_some,keyP _ hnx,keyR _ hnx,Kyw,Kyx]
 by_cases hpf:pfA x.Prefix=0
 ·obtain⟨q,q1,q1'⟩:=hord
  rw[q1,q1',hpf]
  simp only[bne_self_eq_false,cond_false]
  cases hk:keyB x.Node with
  | false=>exact .inr ⟨5,5,rfl,rfl,rfl,by decide⟩
  | true=>
   by_cases hw:0≤x.Weight∧x.Weight≤1000
   ·rw[dT hw]
    cases q with
    | true=>exact .inr ⟨7,7,rfl,rfl,rfl,by decide⟩
    | false=>
     refine .inl ⟨(),(),rfl,rfl,fun j y hj hy=>?_⟩
     by_cases e:j=i
     ·subst e
      rw[hx] at hy;cases hy
      exact⟨hpf,hk,hw.1,hw.2⟩
     exact g1 j y (by omega) hy
   rw[dF hw];exact .inr ⟨1,1,rfl,rfl,rfl,by decide⟩
 rw[bne_iff_ne.2 hpf]
 exact .inr ⟨_,_,rfl,rfl,rfl,hpf⟩
end Go.Gk
namespace Go.Gk
theorem Kru(c:UInt8){s:Str}(h:s.length≤1000000):Ktf s [c]=some (cut1 s c):=by
 unfold Ktf
 show gd (Nat.ble s.length 1099511627776) (some (cut1 s c))=_
 rw[Nat.ble_eq_true_of_le (by omega)]
 rfl
theorem Krv{p:Kzp}(h:pfA p=0):0≤p.Bits∧p.Bits≤128:=by
 unfold pfA at h
 split at h
 ·cases h
 split at h
 ·cases h
 rename_i h1 h2
 have h3:0≤p.Bits∧p.Bits≤lnN p.Addr:=Decidable.not_not.1 h2
 have:=Kye p.Addr
 omega
def lineT(p:Kzp):Str:=addrT p.Addr++[47]++Lib.itoa p.Bits
theorem Krw{p:Kzp}(h:AOk p.Addr)(h0:0≤p.Bits)(h1:p.Bits≤128):Lca 4000 p=some (lineT p)∧Lbf 4000 p=some (lineT p)∧(lineT p).length≤94:=by
 have hi:(Lib.itoa p.Bits).length≤3:=by
  have:=Kon ⟨p.Bits.toNat,by omega⟩
  rw[show p.Bits=((p.Bits.toNat:Nat):Int) by omega,Krl]
  exact this
 have ha:=Kop p.Addr
 unfold lineT
 refine⟨?_,?_,by simp;omega⟩
 ·unfold Lca
  rw[Kov (Kpb h),Kov (Kst (by simp;omega)),Kov (Krq (by omega) (by omega)),Kov (Kst (by simp;omega))]
 unfold Lbf
 rw[Kov (Kph h),Kov (Kst (by simp;omega)),Kov (Krq (by omega) (by omega)),Kov (Kst (by simp;omega))]
def zeroP:Kzp:=⟨⟨false,0,0⟩,0⟩
theorem Lhz(s w r:Str)(f:Bool)(hs:s.length≤100000)(hc:cut1 s 47=(w,r,f))(hw:w.length≤s.length)(hr:r.length≤s.length)(hf:f=true→s=w++47 :: r)(hn:f=false→w=s∧r=[]) :
  ∃ p e,Lcn 4000 s=some (p,e)∧Lcw 4000 s=some (p,e)∧AOk p.Addr:=by
 obtain⟨a,e,h1,h2,h3,h4⟩:=Krd w (by omega)
 obtain⟨n,n1,n2⟩:=numP r 3 (by decide)
 obtain⟨z,ok,z1⟩:=Kna r (by omega)
 have key:(e=0∧numB r 3=true∧pfA ⟨a,n⟩=0) ↔ (e=0∧ok=true∧pfA ⟨a,z⟩=0∧lineT ⟨a,z⟩=s):=by
  constructor
  ·rintro⟨e0,b1,b2⟩
   have hb:=Krv b2
   have hv:=n2 b1
   have ht:=(Krt (m:=3) (by decide) b1).1
   rw[←hv] at ht
   have hb':0≤n∧n≤128:=hb
   have hr2:r=Lib.decDigits n.toNat:=by rw[←Krl,show((n.toNat:Nat):Int)=n by omega,ht]
   have ht2:=(Kmx ⟨n.toNat,by omega⟩).1
   dsimp only at ht2
   rw[←hr2,z1,show((n.toNat:Nat):Int)=n by omega] at ht2
   cases ht2
   refine⟨e0,rfl,b2,?_⟩
   cases f with
   | false=>
    obtain⟨_,rfl⟩:=hn rfl
    cases b1
   | true=>
    unfold lineT
    rw[h4 e0,ht,hf rfl]
    simp
  ·rintro⟨e0,rfl,b2,b3⟩
   have hb:0≤z∧z≤128:=Krv b2
   unfold lineT at b3
   rw[h4 e0] at b3
   dsimp only at b3
   cases f with
   | false=>
    obtain⟨rfl,rfl⟩:=hn rfl
    have:=congrArg List.length b3
    simp at this
   | true=>
    rw[hf rfl,List.append_assoc] at b3
    have b4:Lib.itoa z=r:=by
     have:=List.append_cancel_left b3
     simpa using this
    have hr2:r=Lib.decDigits z.toNat:=by rw[←Krl,show((z.toNat:Nat):Int)=z by omega,b4]
    obtain⟨_,t2,t3,_⟩:=Kmx ⟨z.toNat,by omega⟩
    dsimp only at t2 t3
    rw[←hr2] at t2 t3
    have hv:=n2 t2
    rw[t3,show((z.toNat:Nat):Int)=z by omega] at hv
    rw[hv]
    exact⟨e0,t2,b2⟩
 have same:(numB r 3=true∧pfA ⟨a,n⟩=0∧e=0)→n=z:=by
  rintro⟨b1,b2,e0⟩
  have hb':0≤n∧n≤128:=Krv b2
  have ht:=(Krt (m:=3) (by decide) b1).1
  rw[←n2 b1] at ht
  have hr2:r=Lib.decDigits n.toNat:=by rw[←Krl,show((n.toNat:Nat):Int)=n by omega,ht]
  have ht2:=(Kmx ⟨n.toNat,by omega⟩).1
  dsimp only at ht2
  rw[←hr2,z1,show((n.toNat:Nat):Int)=n by omega] at ht2
  cases ht2
  rfl
 have hP:Lcn 4000 s=some (if e=0∧numB r 3=true∧pfA ⟨a,n⟩=0 then(⟨a,n⟩,0) else(zeroP,9)):=by
  unfold Lcn
  rw[Kov (Kru 47 (by omega)),hc]
  simp only[]
  rw[Kov h1,show(3:Int)=((3:Nat):Int) from rfl,Kov n1]
  simp only[]
  by_cases he:e=0
  ·cases hb:numB r 3 with
   | false=>
    rw[if_neg (fun h=>by cases h.2.1)]
    rw[Bool.not_false,Bool.or_true,cond_true]
    rfl
   | true=>
    rw[show((e != 0):Bool)=false from by rw[he];rfl]
    simp only[Bool.not_true,Bool.or_false,cond_false]
    rw[Kov (Kza (p:=⟨a,n⟩) h3)]
    by_cases hp:pfA ⟨a,n⟩=0
    ·rw[if_pos ⟨he,trivial,hp⟩,hp]
     rfl
    ·rw[if_neg (fun h=>hp h.2.2),show((pfA ⟨a,n⟩ != 0):Bool)=true from bne_iff_ne.2 hp]
     rfl
  ·rw[if_neg (fun h=>he h.1),show((e != 0):Bool)=true from bne_iff_ne.2 he]
   rfl
 have hR:Lcw 4000 s=some (if e=0∧ok=true∧pfA ⟨a,z⟩=0∧lineT ⟨a,z⟩=s then(⟨a,z⟩,0) else(zeroP,9)):=by
  unfold Lcw
  rw[Kov (Kru 47 (by omega)),hc]
  simp only[]
  rw[Kov h2,Kov z1]
  cases ok with
  | false=>
   rw[if_neg (fun h=>by cases h.2.1)]
   rfl
  | true=>
   simp only[]
   by_cases he:e=0
   ·rw[show((e != 0):Bool)=false from by rw[he];rfl]
    simp only[Bool.or_false,cond_false]
    rw[Kov (Kzf (p:=⟨a,z⟩) h3 4000 (by decide)),bi_some]
    by_cases hp:pfA ⟨a,z⟩=0
    ·have hb:0≤z∧z≤128:=Krv hp
     rw[hp]
     rw[show(((0:Int) != 0):Bool)=false from rfl,cond_false,Kov (Krw (p:=⟨a,z⟩) h3 hb.1 hb.2).1,bi_some]
     by_cases ht:lineT ⟨a,z⟩=s
     ·rw[if_pos ⟨he,trivial,rfl,ht⟩,beq_iff_eq.2 ht]
      rfl
     ·rw[if_neg (fun h=>ht h.2.2.2),beq_eq_false_iff_ne.2 ht]
      rfl
    ·rw[if_neg (fun h=>hp h.2.2.1),show((pfA ⟨a,z⟩ != 0):Bool)=true from bne_iff_ne.2 hp]
     rfl
   ·rw[if_neg (fun h=>he h.1),show((e != 0):Bool)=true from bne_iff_ne.2 he]
    rfl
 rw[hP,hR]
 by_cases hk:e=0∧numB r 3=true∧pfA ⟨a,n⟩=0
 ·rw[if_pos hk,if_pos (key.1 hk),same ⟨hk.2.1,hk.2.2,hk.1⟩]
  exact⟨_,_,rfl,rfl,h3⟩
 ·rw[if_neg hk,if_neg (fun h=>hk (key.2 h))]
  exact⟨_,_,rfl,rfl,Kqz⟩
theorem Krx(s:Str)(hs:s.length≤100000):∃ p e,Lcn 4000 s=some (p,e)∧Lcw 4000 s=some (p,e)∧AOk p.Addr:=by
 rcases Ksh 47 s with h | ⟨x,t,h1,h2⟩
 ·exact Lhz s s [] false hs (Ksi h) (Nat.le_refl _) (by simp) (fun h=>by cases h) fun _=>⟨rfl,rfl⟩
 refine Lhz s x t true hs (by rw[h1];exact Ksj t h2) ?_ ?_ (fun _=>h1) fun h=>by cases h
 ·rw[h1];simp
 rw[h1];simp;omega
theorem Lia(v:Str):∀ (l:List Str) (i:Nat),∃ q,rangeM (σ:=Unit) (ρ:=Int) (fun i1 x3 s2=>bif (v:Str)==x3 then(bi (some (i1:Int)) fun v=>some (.out v)) else(some (.go ()))) i l ()=some q
 | [],i=>⟨_,rfl⟩
 | x :: l,i=>by
  obtain⟨q,h⟩:=Lia v l (i+1)
  cases hx:((v:Str)==x) with
  | true=>exact⟨.out (i:Int),by simp only[rangeM,hx];rfl⟩
  | false=>exact⟨q,by simp only[rangeM,hx];exact h⟩
theorem Lic(l:List Str)(v:Str):∃ b,Lcg l v=some b:=by
 obtain⟨q,h⟩:=Lia v l 0
 unfold Lcg Lcf
 rw[Kov h]
 cases q with
 | go s=>exact⟨_,rfl⟩
 | out r=>exact⟨_,rfl⟩
theorem Kry(s:Str)(hs:s.length≤100000):∃ b,Lch s=some (Lib.split s [32],b)∧Lcr s=some (Lib.split s [32],b):=by
 obtain⟨b,hb⟩:=Lic (Lib.split s [32]) []
 unfold Lch Lcr
 rw[Kov (Ksp 32 (by omega)),Kov hb]
 exact⟨_,rfl,rfl⟩
def zeroR:Kzq:=⟨⟨⟨false,0,0⟩,0⟩,[],0⟩
theorem Krz(s:Str)(hs:s.length≤100000)(x:List Kzq)(hx:x.length≤100000):∃ r b,Lcp 4000 s=some (r,b)∧AOk r.Prefix.Addr∧r.Node.length≤s.length∧∃ x',Lcy 4000 s x=some (b,x')∧(b=true→x'=x++[r]):=by
 obtain⟨wb,w1,w2⟩:=Kry s hs
 obtain⟨m1,_,_⟩:=Ksl 32 s.length s (Nat.le_refl _)
 unfold Lcp Lcy
 rw[Kov w1,Kov w2]
 simp only[]
 generalize Lib.split s [32]=L at m1 ⊢
 by_cases h3:L.length=3
 ·have e3:((((L.length:Nat):Int) != 3):Bool)=false:=by rw[h3];rfl
  rw[e3,Bool.or_false]
  cases wb with
  | false=>exact⟨zeroR,false,rfl,Kqz,by simp[zeroR],x,rfl,fun h=>by cases h⟩
  | true=>
   match L,h3,m1 with
   | [a,b,c],_,m1=>
    have la:=(m1 a (by simp)).1
    have lb:=(m1 b (by simp)).1
    have lc:=(m1 c (by simp)).1
    obtain⟨p,e,p1,p2,p3⟩:=Krx a (by omega)
    obtain⟨n,n1,n2⟩:=numP c 9 (by decide)
    obtain⟨n',r1,r2⟩:=numR c 9 (by decide) (by omega)
    have g0:getZ [a,b,c] 0=some a:=rfl
    have g1:getZ [a,b,c] 1=some b:=rfl
    have g2:getZ [a,b,c] 2=some c:=rfl
    have ns:Lco 4000 c=some (n,numB c 9):=by
     unfold Lco
     rw[show(9:Int)=((9:Nat):Int) from rfl,Kov n1]
    simp only[Bool.not_true,cond_false]
    rw[Kov g0,Kov p1,Kov g2,Kov ns,Kov g1,Kov g0,Kov p2,Kov g2,show(9:Int)=((9:Nat):Int) from rfl,Kov r1,Kov g1,Kov (Kwa (by simp;omega))]
    cases hn:numB c 9 with
    | false=>
     refine⟨⟨p,b,n⟩,false,rfl,p3,lb,x++[⟨p,b,n'⟩],?_,fun h=>by cases h⟩
     simp only[Bool.and_false]
    | true=>
     refine⟨⟨p,b,n⟩,(e==0),rfl,p3,lb,x++[⟨p,b,n⟩],?_,fun h=>rfl⟩
     simp only[Bool.and_true]
     rw[r2 hn,n2 hn]
 have e3:((((L.length:Nat):Int) != 3):Bool)=true:=by rw[bne_iff_ne];omega
 rw[e3,Bool.or_true]
 exact⟨zeroR,false,rfl,Kqz,by simp[zeroR],x,rfl,fun h=>by cases h⟩
end Go.Gk
namespace Go.Gk
def linL(L:List Str):List Str×Bool:=match L.getLast? with
 | some []=>(L.dropLast,true)
 | _=>(L,false)
theorem Kqh(x:Str){L:List Str}(h:L≠[]):linL (x :: L)=(x :: (linL L).1,(linL L).2):=by
 unfold linL
 rw[List.getLast?_cons_of_ne_nil h]
 have h2:(x :: L).dropLast=x :: L.dropLast:=List.dropLast_cons_of_ne_nil h
 rw[h2]
 split<;>rfl
def linT(t:Str):List Str×Bool:=linL (Lib.split t [10])
theorem Kqi:linT []=([],true):=by
 unfold linT
 rw[Ksf (s:=[]) (fun b hb=>by cases hb)]
 rfl
theorem Kqj{t:Str}(hn:t≠[])(h:∀ b∈t,b≠10):linT t=([t],false):=by
 unfold linT
 rw[Ksf h]
 cases t with
 | nil=>exact absurd rfl hn
 | cons c t=>rfl
theorem Kqk{x:Str}(t:Str)(h:∀ b∈x,b≠10):linT (x++10 :: t)=(x :: (linT t).1,(linT t).2):=by
 unfold linT
 rw[Ksg t h]
 exact Kqh x (Ksk 10 t)
theorem Kql(t:Str)(h:t.length≤1000000):Lce t=some (linT t):=by
 unfold Lce linT
 rw[Kov (Ksp 10 h)]
 have hne:=Ksk 10 t
 have hlen:=(Ksl 10 t.length t (Nat.le_refl _)).2.2
 generalize Lib.split t [10]=L at hne hlen ⊢
 have h1:1≤L.length:=List.length_pos_iff.2 hne
 rw[show wi ((L.length:Int) - 1)=((L.length - 1:Nat):Int) from by rw[Kvu (by omega) (by omega)];omega]
 have hg:L[L.length - 1]?=some (L.getLast hne):=by rw[←List.getLast?_eq_getElem?,List.getLast?_eq_some_getLast hne]
 rw[Kov (Kwn hg)]
 unfold linL
 rw[List.getLast?_eq_some_getLast hne]
 generalize L.getLast hne=z
 cases z with
 | nil=>
  show(bi (subZ L 0 ((L.length - 1:Nat):Int)) fun z6=>some (z6,true))=_
  have:=Kwm (l:=L) (i:=0) (j:=L.length - 1) (by omega) (by omega)
  rw[show(0:Int)=((0:Nat):Int) from rfl,Kov this,List.drop_zero,List.dropLast_eq_take]
 | cons c z=>rfl
abbrev RS:Type:=List Kzq
def lnP(n:Nat)(fl:Bool)(i5:Nat)(x7:Str)(s6:RS):Option (LS RS (RS×Int×Int)):=bi (Lcp 4000 x7) fun y16=>bif ((!y16.2)||((!fl)&&(((i5:Int):Int)==(wi ((n:Int) - 1))))) then(bi (some ([],(i5:Int),9)) fun v=>some (.out v)) else(bi (apd s6 [y16.1]) fun y22=>some (.go y22))
def lnR(s2:RS×Str×Int):Option (LS (RS×Str×Int) (RS ⊕ (Int×Bool×RS))):=bif !((s2.2.1:Str)==[]) then(bi (Ktf s2.2.1 [10]) fun y12=>bi (bif !y12.2.2 then(some (s2.1,true)) else(bi (Lcy 4000 y12.1 s2.1) fun y18=>some (y18.2,!y18.1))) fun q14=>bif q14.2 then(bi (some (s2.2.2,false,q14.1)) fun v=>some (.out (.inr v))) else(some (.go (q14.1,y12.2.1,wi (s2.2.2+1))))) else(some (.out (.inl s2.1)))
theorem Kqm(B:Nat)(hB:B≤3900)(n:Nat)(fl:Bool)(hn:n≤100000):∀ (m:Nat) (t:Str) (i k:Nat) (s:RS),t.length=m→m≤B→m<k→i+(linT t).1.length=n→fl=(linT t).2→s.length=i→(∀ x∈s,AOk x.Prefix.Addr∧x.Node.length≤B)→
  ∃ p q,rangeM (lnP n fl) i (linT t).1 s=some p∧loopM lnR k (s,t,(i:Int))=some q∧((∃ l,p=.go l∧q=.inl l∧l.length=n∧∀ x∈l,AOk x.Prefix.Addr∧x.Node.length≤B)∨∃ (j:Nat) (l:RS),p=.out ([],(j:Int),9)∧q=.inr ((j:Int),false,l))
 | m,t,i,0,s,_,_,hk,_,_,_,_=>absurd hk (Nat.not_lt_zero _)
 | m,t,i,k+1,s,hm,hmB,hk,hi,hfl,hs,hx=>by
  rcases Ksh 10 t with h | ⟨x,t',h1,h2⟩
  ·by_cases hn0:t=[]
   ·subst hn0
    rw[Kqi] at hi hfl ⊢
    refine⟨.go s,.inl s,rfl,Knz _ rfl,.inl ⟨s,rfl,rfl,?_,hx⟩⟩
    have:i+0=n:=hi
    omega
   ·rw[Kqj hn0 h] at hi hfl ⊢
    have hi':i+1=n:=hi
    have hfl':fl=false:=hfl
    subst hfl'
    obtain⟨r,b,r1,_⟩:=Krz t (by omega) s (by omega)
    have e1:lnP n false i t s=some (.out ([],(i:Int),9)):=by
     unfold lnP
     rw[Kov r1,Knj i n (by omega) (by omega),dT hi']
     simp only[Bool.not_false,Bool.true_and,Bool.or_true,cond_true]
     rfl
    have e2:lnR (s,t,(i:Int))=some (.out (.inr ((i:Int),false,s))):=by
     unfold lnR
     simp only[]
     rw[Knk,dF (show ¬ t.length=0 from fun h0=>hn0 (List.eq_nil_of_length_eq_zero h0)),Kov (Kru 10 (by omega)),Ksi h]
     rfl
    exact⟨_,_,Kno e1,Knz _ e2,.inr ⟨i,s,rfl,rfl⟩⟩
  ·have hl:t.length=x.length+1+t'.length:=by rw[h1];simp;omega
   rw[h1,Kqk t' h2] at hi hfl ⊢
   have hi':i+((linT t').1.length+1)=n:=hi
   have hfl':fl=(linT t').2:=hfl
   obtain⟨r,b,r1,r2,r3,x',r4,r5⟩:=Krz x (by omega) s (by omega)
   have hlast:fl=false→i+1≠n:=fun hf he=>by
    have h0:(linT t').1=[]:=List.eq_nil_of_length_eq_zero (by omega)
    rcases Ksh 10 t' with g | ⟨y,t2,g1,g2⟩
    ·by_cases g0:t'=[]
     ·rw[g0,Kqi,hf] at hfl';cases hfl'
     ·rw[Kqj g0 g] at h0;cases h0
    ·rw[g1,Kqk t2 g2] at h0;cases h0
   have hc:((!fl)&&(((i:Int):Int)==(wi ((n:Int) - 1))))=false:=by
    rw[Knj i n (by omega) (by omega)]
    cases hf:fl with
    | true=>rfl
    | false=>rw[dF (hlast hf)];rfl
   have e2:lnR (s,x++10 :: t',(i:Int))=some (if b=true then .go (x',t',((i+1:Nat):Int)) else .out (.inr ((i:Int),false,x'))):=by
    unfold lnR
    simp only[]
    rw[Knk,dF (show ¬ (x++10 :: t').length=0 by simp),Kov (Kru 10 (by simp;omega)),Ksj t' h2]
    simp only[Bool.not_false,Bool.not_true,cond_true,cond_false]
    rw[r4]
    simp only[bi_some]
    rw[Kvu (by omega) (by omega)]
    cases b<;>rfl
   cases b with
   | false=>
    have e1:lnP n fl i x s=some (.out ([],(i:Int),9)):=by
     unfold lnP
     rw[Kov r1]
     rfl
    rw[if_neg (by decide)] at e2
    exact⟨_,_,Kno e1,Knz _ e2,.inr ⟨i,x',rfl,rfl⟩⟩
   | true=>
    have e1:lnP n fl i x s=some (.go (s++[r])):=by
     unfold lnP
     rw[Kov r1]
     simp only[Bool.not_true,Bool.false_or]
     rw[hc,cond_false,Kov (Kwa (by simp;omega))]
    rw[if_pos rfl,r5 rfl] at e2
    obtain⟨p,q,p1,q1,pq⟩:=Kqm B hB n fl hn t'.length t' (i+1) k (s++[r]) rfl (by omega) (by omega) (by omega) hfl' (by simp;omega) (fun y hy=>by
     rcases List.mem_append.1 hy with hy | hy
     ·exact hx y hy
     ·rw[List.mem_singleton.1 hy]
      exact⟨r2,by omega⟩)
    exact⟨p,q,(Knp e1).trans p1,(Kny _ e2).trans q1,pq⟩
theorem Kqn(text:Str):Lcq 4000 text=bif decide (((text.length:Int):Int)>200000) then(some ([],0,2)) else(bi (Lce text) fun y3=>bi (rangeM (lnP y3.1.length y3.2) 0 y3.1 ([]:RS)) fun q=>goI q fun a10=>bi (Lbb 4000 a10) fun y24=>bif (y24:Int) != 0 then(some ([],0,y24)) else(some (a10,0,0))):=rfl
theorem Kqo(text:Str)(f:RS):Lcz 4000 text f=bi (loopM lnR 4000 (f,text,0)) fun q=>orI q fun a6=>some (0,true,a6):=rfl
theorem Kqp(L:List Str):(linL L).1.length≤L.length:=by
 unfold linL
 split
 ·simp
 exact Nat.le_refl _
theorem Kqq(text:Str)(h:text.length≤3900):∃ l e j,Lcq 4000 text=some (l,j,e)∧Lda 4000 text=some (l,j,e):=by
 have hle:(linT text).1.length≤text.length+1:=Nat.le_trans (Kqp _) (Ksl 10 text.length text (Nat.le_refl _)).2.2
 rw[Kqn]
 unfold Lda
 rw[dF (show ¬ ((text.length:Int)>200000) by omega),cond_false,cond_false,Kov (Kql text (by omega)),Kqo]
 obtain⟨p,q,p1,q1,pq⟩:=Kqm text.length h (linT text).1.length (linT text).2 (by omega) text.length text 0 4000 [] rfl (Nat.le_refl _) (by omega) (by omega) rfl rfl fun x hx=>by cases hx
 rw[show((0:Nat):Int)=0 from rfl] at q1
 rw[Kov p1,q1,bi_some]
 rcases pq with⟨l,rfl,rfl,hl,hx⟩ | ⟨j,l,rfl,rfl⟩
 ·obtain⟨e,c1,c2,_⟩:=Lhu l ⟨fun x hm=>⟨(hx x hm).1,by have:=(hx x hm).2;omega⟩,by omega⟩
  simp only[goI,orI,bi_some,Bool.not_true,cond_false]
  rw[Kov c1,Kov c2]
  cases (e != 0) with
  | true=>exact⟨_,_,_,rfl,rfl⟩
  | false=>exact⟨_,_,_,rfl,rfl⟩
 exact⟨_,_,_,rfl,rfl⟩
end Go.Gk
namespace Go.Gk
theorem Ksa:Ldf 4000 [([97],[(⟨[98],3⟩:Kzs)]),([98],[⟨[97],3⟩])] [97]=some [([97],⟨0,0⟩),([98],⟨3,1⟩)]:=by
 unfold Ldf
 have e0:mSet ([]:List (Str×Kzt)) [97] ⟨0,0⟩=[([97],⟨0,0⟩)]:=rfl
 rw[e0]
 refine Kwi (k:=3999) ([([97],⟨0,0⟩),([98],⟨3,1⟩)],[([97],true)]) ?_ ?_
 ·dsimp only
  rw[Kwk (r:=(([97],true):Str×Bool)) rfl]
  rfl
 refine Kwi (k:=3998) ([([97],⟨0,0⟩),([98],⟨3,1⟩)],[([97],true),([98],true)]) ?_ ?_
 ·dsimp only
  rw[Kwl (r:=(([98],true):Str×Bool)) rfl rfl]
  rfl
 refine Kwj (k:=3997) [([97],⟨0,0⟩),([98],⟨3,1⟩)] ?_ rfl
 dsimp only
 rw[Kwl (r:=(([],false):Str×Bool)) rfl rfl]
 rfl
theorem Ksb:Ldh 4000 [(⟨[97],[98],3⟩:Kzr)] [98] [97]=some ([[98],[97]],3,0):=by
 unfold Ldh
 rw[show Ldc 4000 [(⟨[97],[98],3⟩:Kzr)]=some 0 from rfl,show Lar 4000 [98]=some true from rfl,show Lar 4000 [97]=some true from rfl]
 simp only[bi_some]
 rw[show((0:Int) != 0)=false from rfl]
 simp only[cond_false,Bool.not_true,bi_some]
 have h:Ldg 4000 [(⟨[97],[98],3⟩:Kzr)] [98] [97]=some ([[98],[97]],3,0):=by
  unfold Ldg
  rw[show Ldd [(⟨[97],[98],3⟩:Kzr)]=some [([97],[(⟨[98],3⟩:Kzs)]),([98],[⟨[97],3⟩])] from rfl]
  simp only[bi_some]
  rw[Ksa]
  rfl
 rw[h]
 rfl
theorem Ksc:Ldj 4000=some true:=by
 unfold Ldj
 rw[Ksb]
 rfl
end Go.Gk
