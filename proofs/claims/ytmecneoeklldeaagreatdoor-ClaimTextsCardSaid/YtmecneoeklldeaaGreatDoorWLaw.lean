import Derived.Test.YtmecneoeklldeaaGreatDoorWB
set_option linter.all false
set_option maxRecDepth 100000
namespace Go.Gk
theorem Ktv(k:Nat)(hk:80000<k):Lap k=some true:=by
 obtain⟨k,rfl⟩:∃ m,k=m+20:=⟨k - 20,by omega⟩
 rfl
theorem Ktw{l:List Int}{b:Int}{s:Kxb}(h:At l 0 b s)(many:Int)(h0:0≤many)(hm:many≤4)(hl:l.length≤9223372036854775807)(h1:b<2000000000000000000) :
  Ok (Kxs s many) fun r=>Cls (6 * many.toNat+1) r.1∧At l 0 (b+5000) r.2:=by
 have:=Ktp h many.toNat (by omega) hl h1
 rw[Int.toNat_of_nonneg h0] at this
 exact this
theorem Ktx{b s:Str}(h:b.length+s.length≤1000000):Kyh b s=some ((s.length:Int),b++s):=by
 unfold Kyh
 rw[show Kli b=some () from rfl,bi_some,Ksy (by omega),bi_some]
def rcP(k:Nat)(i5:Nat)(x7:Kxd)(s6:List UInt8):Option (List UInt8):=bi (Kpq x7.At) fun y16=>bi (catZ y16 [32]) fun y18=>bi (catZ y18 x7.Node) fun y20=>bi (catZ y20 [32]) fun y22=>bi (catZ y22 x7.Name) fun y24=>bi (catZ y24 [32]) fun y26=>bi (Kyg k x7.Value) fun y28=>bi (catZ y26 y28) fun y30=>bi (catZ y30 [10]) fun y32=>bi (Kyh s6 y32) fun y34=>some y34.2
def rcR(k:Nat)(i1:Nat)(x3:Kxd)(s2:List UInt8):Option (List UInt8):=bi (Kpq x3.At) fun y12=>bi (catZ y12 [32]) fun y14=>bi (catZ y14 x3.Node) fun y16=>bi (catZ y16 [32]) fun y18=>bi (catZ y18 x3.Name) fun y20=>bi (catZ y20 [32]) fun y22=>bi (Kys k x3.Value) fun y24=>bi (catZ y22 y24) fun y26=>bi (catZ y26 [10]) fun y28=>bi (Kyh s2 y28) fun y30=>some y30.2
theorem Kty(k:Nat)(l:List Kxd):Kyj k l=bi (Kyc k l) fun y1=>bif (y1:Int) != 0 then(some ([],y1)) else(bi (rangeF (rcP k) 0 l ([]:Str)) fun q8=>bi (Kyi q8) fun y36=>bif decide ((y36:Int)>200000) then(some ([],2)) else(bi (Klj q8) fun y40=>some (y40,0))):=rfl
theorem Ktz(k:Nat)(l:List Kxd):Kyt k l=bi (rangeF (rcR k) 0 l ([]:Str)) fun q4=>bi (Klj q4) fun y32=>some y32:=rfl
theorem Kua{s:Str}(h:keyB s=true):s.length≤40:=by
 unfold keyB at h
 rw[Bool.and_eq_true,decide_eq_true_eq] at h
 exact h.1.2
theorem Kub{k:Nat}{l:List Kxd}{i:Nat}{x:Kxd}(h:chkE k l i x=0):keyB x.Node=true∧keyB x.Name=true∧attrE k x.Value=0:=by
 unfold chkE at h
 split at h
 ·cases h
 split at h
 ·cases h
 rename_i h5
 split at h
 ·rename_i h7;exact absurd h h7
 rename_i h7
 refine⟨?_,?_,by simpa using h7⟩
 ·cases hk:keyB x.Node with
  | true=>rfl
  | false=>rw[hk] at h5;simp at h5
 cases hk:keyB x.Name with
 | true=>rfl
 | false=>rw[hk] at h5;simp at h5
theorem Kuc(k:Nat)(hk:50010<k){l:List Kxd}{i:Nat}{x:Kxd}(hs:ClS x)(h:chkE k l i x=0):∃ row:Str,(∀ i acc,acc.length≤500000→rcP k i x acc=some (acc++row))∧(∀ i acc,acc.length≤500000→rcR k i x acc=some (acc++row))∧row.length≤500:=by
 obtain⟨h1,h2⟩:=Ktu h
 obtain⟨h3,h4,h5⟩:=Kub h
 have l3:=Kua h3
 have l4:=Kua h4
 have hw:x.Value.Words.length≤40000:=hs.2.2
 have ha:=(Ktq k (by omega) x.Value hs.2.2).1
 rw[h5] at ha
 obtain⟨t,t1,t2,t3⟩:=Kwt k (by omega) x.Value (by omega) ha
 obtain⟨a1,a2,a3⟩:=Kwc h1 (by omega)
 refine⟨Lib.itoa x.At++[32]++x.Node++[32]++x.Name++[32]++t++[10],fun i acc hacc=>?_,fun i acc hacc=>?_,by simp;omega⟩
 ·unfold rcP
  rw[a3,bi_some,Kcp (by simp;omega),bi_some,Kcp (by simp;omega),bi_some,Kcp (by simp;omega),bi_some,Kcp (by simp;omega),bi_some,Kcp (by simp;omega),bi_some,t1,bi_some,Kcp (by simp;omega),bi_some,Kcp (by simp;omega),bi_some,Ktx (by simp;omega),bi_some]
 unfold rcR
 rw[a3,bi_some,Kcp (by simp;omega),bi_some,Kcp (by simp;omega),bi_some,Kcp (by simp;omega),bi_some,Kcp (by simp;omega),bi_some,Kcp (by simp;omega),bi_some,t2,bi_some,Kcp (by simp;omega),bi_some,Kcp (by simp;omega),bi_some,Ktx (by simp;omega),bi_some]
theorem Kud(k:Nat)(hk:50010<k){l:List Kxd}(h:∀ x∈l,ClS x)(hl:l.length≤60):∃ t e,Kyj k l=some (t,e)∧Kyr k l=some e∧(e=0→Kyt k l=some t∧t.length≤30000)∧(e≠0→t=[]):=by
 obtain⟨e,c1,c2,c3⟩:=Ktt k hk l (by omega) h
 rw[Kty,Kct c1]
 by_cases he:e=0
 ·subst he
  have hz:=(c3 rfl).2
  obtain⟨s,t,h1,h2,h3,h4⟩:=Ktf (f:=rcP k) (g:=rcR k) l (fun i (s t:List UInt8)=>s=t∧s.length≤500 * i) (fun i x s t hx hI=>by
   obtain⟨rfl,hI2⟩:=hI
   have hi:i<l.length:=(gEs.1 hx).1
   obtain⟨row,r1,r2,r3⟩:=Kuc k hk (h x (mOg hx)) (hz i x hx)
   exact⟨_,_,r1 i s (by omega),r2 i s (by omega),rfl,by simp;omega⟩) l 0 [] [] rfl ⟨rfl,by simp⟩
  subst h3
  have hLen:Kyi s=some (s.length:Int):=rfl
  refine⟨s,0,?_,c2,fun _=>⟨?_,by omega⟩,fun h0=>absurd rfl h0⟩
  ·rw[show(((0:Int) != 0):Bool)=false from rfl,cond_false,Kct h1,Kct hLen,dF (show ¬ ((s.length:Int)>200000) by omega)]
   rfl
  rw[Ktz,Kct h2]
  rfl
 refine⟨[],e,?_,c2,fun h0=>absurd h0 he,fun _=>rfl⟩
 rw[bne_iff_ne.2 he]
 rfl
theorem Kue{l:List Int}{b:Int}{s:Kxb}(h:At l 0 b s)(hl:l.length≤9223372036854775807)(hb:b<4611686018427300000)(t w:Str)(ht:t.length≤35000)(hw:1≤w.length∧w.length≤100):Ok (Kyu s t w) fun r=>r.1.length≤t.length+100∧At l 0 (b+3) r.2:=by
 obtain⟨e1,e2,e3⟩:=h
 obtain⟨r,a',h1,h2,h3,h4⟩:=Lem l s.v_at t w hl (by omega) (by omega) ht hw
 rw[←e1] at h4
 exact⟨_,h4,h1,e1,by show 0≤a';omega,by show a'≤b+3;omega⟩
theorem Kuf{l:List Int}{b:Int}{s:Kxb}(h:At l 0 b s)(hl:l.length≤9223372036854775807)(hb:b<1000000)(k:Nat)(hk:50010<k):Ok (Kyv k s) fun r=>r.1.length≤31000:=by
 unfold Kyv
 refine Kcw (Kdi h 0 3 hl (by omega) (by omega) (by omega) (by omega) (by omega)) fun y1 ⟨a1,b1,t1⟩=>?_
 refine Kcw (Ktw (t1.up (a':=0) (b':=b+1) (by omega) (by omega)) y1.1 a1 (by omega) hl (by omega)) fun y3 ⟨c3,t3⟩=>?_
 have c3:Cls 60 y3.1:=c3.up (by omega)
 obtain⟨t,e,e1,e2,e3,e4⟩:=Kud k hk c3.2 c3.1
 refine Kcx e2 ?_
 refine Kcw (P:=fun q:Str=>q.length≤30000) ?_ fun q7 h7=>?_
 ·refine Kcz (fun he=>?_) (fun _=>Kcv (by decide))
  obtain⟨f1,f2⟩:=e3 (eq_of_beq he)
  exact Kcx f1 (Kcv f2)
 refine Kcw (Kdg t3 [0,0,1,2] hl (by omega) (by omega) (by decide) (by decide)) fun y13 h13=>?_
 have hn:0≤y13.1∧y13.1≤2:=by
  have:=h13.1
  simp only[List.mem_cons,List.not_mem_nil,or_false] at this
  omega
 refine Kcw (P:=fun st:Kxb×Str=>st.2.length≤31000) (Kda (dT (by omega)) (Kcy (Kdc (fun i (st:Kxb×Str)=>At l 0 (b+5002+3 * i) st.1∧st.2.length≤30000+100 * i) ⟨h13.2.up (by omega) (by simp;omega),by simpa using h7⟩ fun i st hi hI=>?_) fun r hr=>by have:=hr.2;omega)) fun q18 h18=>Kcv h18
 refine Kcw (Kue hI.1 hl (by omega) st.2 _ (by have:=hI.2;omega) (by decide)) fun y27 h27=>?_
 exact Kcv ⟨h27.2.up (Int.le_refl _) (by push_cast;omega),by have:=hI.2;have:=h27.1;show y27.1.length≤_;omega⟩
theorem Kug(A:List Kxd):Kzy A A=some true:=by
 unfold Kzy
 rw[show(((A.length:Int):Int) != (A.length:Int))=false by simp,cond_false]
 have key:∀ (L:List Kxd) (i:Nat),(∀ (j:Nat) (x:Kxd),L[j]?=some x→A[i+j]?=some x)→rangeM (σ:=Unit) (ρ:=Bool) (fun i3 x5 s4=>bi (getZ A (i3:Int)) fun x14=>bif !(((x5.At:Int)==x14.At)&&(((x5.Node:Str)==x14.Node)&&(((x5.Name:Str)==x14.Name)&&((((x5.Value.Kind:Int)==x14.Value.Kind)&&(((x5.Value.Number:Int)==x14.Value.Number)&&(((x5.Value.Words:Str)==x14.Value.Words)&&(decide (([x5.Value.Version.1,x5.Value.Version.2.1,x5.Value.Version.2.2.1,x5.Value.Version.2.2.2]:List Int)=[x14.Value.Version.1,x14.Value.Version.2.1,x14.Value.Version.2.2.1,x14.Value.Version.2.2.2])&&true))))&&true)))) then(bi (some false) fun v=>some (.out v)) else(some (.go ()))) i L ()=some (.go ()):=by
  intro L
  induction L with
  | nil=>intro i _;rfl
  | cons x L ih=>
   intro i h
   have h0:=h 0 x rfl
   rw[Nat.add_zero] at h0
   refine(Kvo (t:=()) ?_).trans (ih (i+1) fun j y hy=>?_)
   ·rw[Kth h0,bi_some]
    simp
   have:=h (j+1) y (by simpa using hy)
   rw[show i+1+j=i+(j+1) by omega]
   exact this
 rw[key A 0 (fun j x hx=>by rw[Nat.zero_add];exact hx)]
 rfl
theorem ClaimTexts_true(l:List Int)(hl:l.length≤9223372036854775807):Laq 200000 l=some true:=by
 have key:Ok (Laq 200000 l) fun r=>r=true:=by
  unfold Laq
  have t0:At l 0 0 (⟨l,0⟩:Kxb):=⟨rfl,Int.le_refl _,Int.le_refl _⟩
  refine Kcw (Kdi t0 0 3 hl (by omega) (by omega) (by omega) (by omega) (by omega)) fun y1 ⟨a1,b1,t1⟩=>?_
  refine Kcw (Ktw (t1.up (a':=0) (b':=1) (by omega) (by omega)) y1.1 a1 (by omega) hl (by omega)) fun y3 ⟨c3,t3⟩=>?_
  have c3:Cls 60 y3.1:=c3.up (by omega)
  obtain⟨t,e,e1,e2,e3,e4⟩:=Kud 200000 (by decide) c3.2 c3.1
  refine Kcx e1 (Kcx e2 ?_)
  refine Kcx (r:=false) ?_ ?_
  ·show(bif (e:Int) != e then(some true) else(bi (bif (e:Int)==0 then(bi (Kyt 200000 y3.1) fun y16=>some (!((t:Str)==y16))) else(some false)) fun q13=>some q13))=some false
   rw[show((e:Int) != e)=false by simp,cond_false]
   by_cases he:e=0
   ·rw[beq_iff_eq.2 he,cond_true,(e3 he).1,bi_some,beq_self_eq_true]
    rfl
   rw[beq_eq_false_iff_ne.2 he]
   rfl
  have hq:(false||(((e:Int) != 0)&&(!((t:Str)==[]))))=false:=by
   by_cases he:e=0
   ·subst he;rfl
   rw[e4 he];simp
  simp only
  rw[hq,cond_false]
  refine Kcw (Kuf t3 hl (by decide) 200000 (by decide)) fun y21 h21=>?_
  obtain⟨z,er,j,r1,r2⟩:=Kvu 200000 (by decide) y21.1 (by omega)
  refine Kcx r1 (Kcx r2 ?_)
  simp only[beq_self_eq_true,Bool.and_self,cond_true,Kug,bi_some]
  rw[Ktv 200000 (by decide)]
  exact Kcv rfl
 obtain⟨r,h,rfl⟩:=key
 exact h
end Go.Gk
