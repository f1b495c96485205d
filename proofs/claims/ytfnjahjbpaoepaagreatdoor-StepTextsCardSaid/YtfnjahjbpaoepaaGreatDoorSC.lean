import Derived.Test.YtfnjahjbpaoepaaGreatDoorSB
set_option linter.all false
set_option maxRecDepth 100000
namespace Go.Gk
theorem Kta(l:List Str)(v:Str):Lar l v=some (l.any fun x=>v==x):=by
 unfold Lar Laq
 rw[Kuv (fun x=>v==x) l (fun j x _=>by cases (v==x)<;>rfl),bi_some,Kut]
theorem Ktb{α:Type}{l:List α}{i:Nat}{x:α}{g:α→Option Bool}(hx:l[i]?=some x)(hl:l.length≤100000)(hg:∀ y,Ok (g y) fun _=>True) :
  Ok (bif decide (((i:Int):Int)>0) then(bi (getZ l (wi ((i:Int) - 1))) g) else(some false)) fun _=>True:=by
 refine Kvm (fun h=>?_) fun _=>Kvi trivial
 have hi:(i:Int)>0:=of_decide_eq_true h
 have hil:i<l.length:=(gEs.1 hx).1
 refine Kvr (j:=i - 1) (x:=l[i - 1]) ?_ (gGe (by omega)) (hg _)
 rw[Ktc (by omega) (by omega)];omega
structure DirOk(d:Kya):Prop where
 us:∀ x∈d.Users,x∈keyT
 ul:d.Users.length≤10
 ow:∀ o∈d.Owners,o.Tag∈keyT∧o.Users.length≤10
 ol:d.Owners.length≤10
end Go.Gk
namespace Go.Gk
section
variable{K V:Type}[BEq K][LawfulBEq K][KLt K]
theorem Kuy(e:K×V)(m:List (K×V))(k:K):mGet (e :: m) k=if k==e.1 then some e.2 else mGet m k:=by
 unfold mGet
 simp only[List.find?_cons]
 cases (k==e.1)<;>rfl
theorem Kuz(k:K)(v:V)(k':K):∀ m:List (K×V),(∀ e∈m,(k==e.1)=false)→mGet (mIns k v m) k'=if k'==k then some v else mGet m k'
 | [],_=>by simp only[mIns,Kuy]
 | e :: m,h=>by
  have h0:=h e mCs
  simp only[mIns]
  cases KLt.lt k e.1 with
  | true=>simp only[cond_true,Kuy]
  | false=>
   simp only[cond_false]
   rw[Kuy,Kuz k v k' m fun e he=>h e (mCo _ he),Kuy]
   by_cases h2:k'=e.1
   ·subst h2
    have:(e.1==k)=false:=by
     rw[beq_eq_false_iff_ne] at h0 ⊢;exact Ne.symm h0
    simp[this]
   have:(k'==e.1)=false:=by simpa using h2
   simp[this]
theorem Kva(m:List (K×V))(k:K)(v:V)(k':K):mGet (mSet m k v) k'=if k'==k then some v else mGet m k':=by
 unfold mSet
 cases hf:m.findIdx? (fun e=>k==e.1) with
 | none=>exact Kuz k v k' m (by simpa using List.findIdx?_eq_none_iff.1 hf)
 | some i=>
  simp only
  induction m generalizing i with
  | nil=>simp at hf
  | cons e m ih=>
   rw[List.findIdx?_cons] at hf
   by_cases hk:k=e.1
   ·subst hk
    simp at hf
    subst hf
    simp only[List.set_cons_zero,Kuy]
    by_cases h2:k'=e.1
    ·subst h2;simp
    have:(k'==e.1)=false:=by simpa using h2
    simp[this]
   have hk2:(k==e.1)=false:=by simpa using hk
   rw[hk2] at hf
   simp only[Bool.false_eq_true,if_false,Option.map_eq_some_iff] at hf
   obtain⟨j,hj,rfl⟩:=hf
   simp only[List.set_cons_succ,Kuy,ih j hj]
   by_cases h2:k'=e.1
   ·subst h2
    have:(e.1==k)=false:=by simpa using Ne.symm hk
    simp[this]
   have:(k'==e.1)=false:=by simpa using h2
   simp[this]
end
def sameO(x y:Kxx):Bool:=((x.Server:Str)==y.Server)&&((x.No:Int)==y.No)
def Once(l:List Kxx):Prop:=∀ (i:Nat) x,l[i]?=some x→(l.take i).any (fun y=>sameO y x)=false
def og(x:Kxx):Kxy:=⟨x.Server,x.No⟩
theorem Kvb(x y:Kxx):(og y==og x)=sameO x y:=by
 rw[Bool.eq_iff_iff]
 unfold og sameO
 simp only[beq_iff_eq,Kxy.mk.injEq,Bool.and_eq_true]
 exact⟨fun h=>⟨h.1.symm,h.2.symm⟩,fun h=>⟨h.1.symm,h.2.symm⟩⟩
theorem Kvc(a b:Kxx):∃ c,Kyn a b=some c:=by
 unfold Kyn Ksh
 rw[Kto,Kto]
 simp only[bi_some]
 obtain⟨c,h,_⟩:=Ktp (cmpI a.At b.At) [Lib.compareBytes a.Server b.Server,cmpI a.No b.No]
 rw[h]
 exact⟨_,rfl⟩
theorem Kvd(l:List Kxx)(x:Kxx):Lag l x=some (l.any fun y=>sameO y x):=by
 unfold Lag Laf
 rw[Kuv (fun y=>sameO y x) l (fun j y _=>by unfold Lae sameO;cases ((y.Server:Str)==x.Server)<;>cases ((y.No:Int)==x.No)<;>rfl),bi_some,Kut]
theorem Kve{α:Type}{l:List α}{i:Nat}{x:α}(h:l[i]?=some x):l.take (i+1)=l.take i++[x]:=by
 rw[List.take_add_one,h];rfl
theorem Kvf{l:List Kxx}{i:Nat}{x:Kxx}(hx:l[i]?=some x)(hl:l.length≤100000):∃ b,
  (bif decide (((i:Int):Int)>0) then(bi (getZ l (wi ((i:Int) - 1))) fun x23=>bi (Kzj x23 x) fun y25=>some (decide ((y25:Int)≥0))) else(some false))=some b∧
  (bif decide (((i:Int):Int)>0) then(bi (getZ l (wi ((i:Int) - 1))) fun x23=>bi (Kyn x23 x) fun y25=>some (decide ((y25:Int)≥0))) else(some false))=some b:=by
 have e:Kzj=Kyn:=rfl
 rw[e]
 obtain⟨b,h,_⟩:=Ktb (g:=fun x23=>bi (Kyn x23 x) fun y25=>some (decide ((y25:Int)≥0))) hx hl fun y=>by
  obtain⟨c,hc⟩:=Kvc y x
  rw[hc]
  exact Kvi trivial
 exact⟨b,h,h⟩
end Go.Gk
namespace Go.Gk
theorem Kwc{σ ρ:Type}{f:σ→Option (LS σ ρ)}{k:Nat}{s:σ}{r:ρ}(h:f s=some (.out r)):loopM f (k+1) s=some r:=by
 simp only[loopM,h]
def Kin(data r:List Kxx):Prop:=r.length=data.length∧∀ x∈r,x∈data
theorem Kin.set{data r:List Kxx}(h:Kin data r){i:Nat}{x:Kxx}(hx:x∈data):Kin data (r.set i x):=
 ⟨by rw[List.length_set];exact h.1,fun y hy=>by
  rcases List.mem_or_eq_of_mem_set hy with h1 | rfl
  ·exact h.2 y h1
  exact hx⟩
theorem Kwd(data:List Kxx)(k:Nat)(hk:data.length<k)(hl:data.length≤1000)(s:(List Kxx)×Int)(hs:Kin data s.1∧0≤s.2∧s.2<data.length) :
  Ok (loopM (σ:=(List Kxx)×Int) (ρ:=List Kxx) (fun s13=>bi (bif decide ((s13.2:Int)>0) then(bi (getZ s13.1 s13.2) fun x25=>bi (getZ s13.1 (wi (s13.2 - 1))) fun x28=>bi (Kyn x25 x28) fun y31=>some (decide ((y31:Int)<0))) else(some false)) fun q22=>bif q22 then(bi (getZ s13.1 (wi (s13.2 - 1))) fun x35=>bi (getZ s13.1 s13.2) fun x38=>bi (getZ s13.1 s13.2) fun x41=>bi (getZ s13.1 (wi (s13.2 - 1))) fun x44=>bi (getZ (s13.1.set s13.2.toNat x35) (((wi (s13.2 - 1)).toNat:Nat):Int)) fun x47=>some (.go ((s13.1.set s13.2.toNat x35).set ((wi (s13.2 - 1)).toNat) x38,wi (s13.2 - 1)))) else(some (.out s13.1))) k s) (Kin data):=by
 refine Kvq (fun s:(List Kxx)×Int=>Kin data s.1∧0≤s.2∧s.2<(data.length:Int)) (fun s=>s.2.toNat) (Kin data) hs (by omega) fun s13 hI=>?_
 obtain⟨h1,h2,h3⟩:=hI
 have hj:s13.2.toNat<s13.1.length:=by rw[h1.1];omega
 by_cases h0:s13.2>0
 ·have hw:wi (s13.2 - 1)=((s13.2.toNat - 1:Nat):Int):=by rw[Ktc (by omega) (by omega)];omega
  have e1:getZ s13.1 s13.2=some (s13.1[s13.2.toNat]):=Ksz (j:=s13.2.toNat) (by omega) (gGe hj)
  have e2:getZ s13.1 (wi (s13.2 - 1))=some (s13.1[s13.2.toNat - 1]'(by omega)):=Ksz (j:=s13.2.toNat - 1) hw (gGe (by omega))
  rw[dT h0,cond_true,e1,e2]
  obtain⟨c,hc⟩:=Kvc (s13.1[s13.2.toNat]) (s13.1[s13.2.toNat - 1]'(by omega))
  refine Kvk (r:=decide (c<0)) (by rw[bi_some,bi_some,hc];rfl) ?_
  refine Kvm (fun _=>?_) fun _=>Kvi h1
  simp only[bi_some]
  refine Kvr (j:=s13.2.toNat - 1) (x:=s13.1[s13.2.toNat - 1]'(by omega)) (by rw[hw,Int.toNat_natCast]) (by rw[gSn (by omega)];exact gGe _) (Kvi ⟨⟨?_,?_,?_⟩,?_⟩)
  ·exact(h1.set (h1.2 _ (List.getElem_mem _))).set (h1.2 _ (List.getElem_mem _))
  ·rw[hw];omega
  ·rw[hw];omega
  ·simp only[hw];omega
 ·rw[dF h0,cond_false,bi_some,cond_false]
  exact Kvi h1
theorem Kwe(data:List Kxx)(k:Nat)(hk:data.length<k)(hl:data.length≤1000):Ok (Kyo k data 0 (data.length:Int)) (Kin data):=by
 unfold Kyo
 refine Kvj (P:=Kin data) (Kvq (fun s:(List Kxx)×Int=>Kin data s.1∧1≤s.2) (fun s=>((data.length:Int) - s.2).toNat) (Kin data) ⟨⟨rfl,fun x h=>h⟩,Int.le_refl 1⟩ (by
  show((data.length:Int) - wi (0+1)).toNat<k
  have:wi (0+1)=1:=rfl
  omega) fun s hI=>?_) fun r hr=>Kvi hr
 refine Kvm (fun h=>?_) fun _=>Kvi hI.1
 have hlt:=of_decide_eq_true h
 have h1:=hI.2
 refine Kvj (Kwd data k hk hl (s.1,s.2) ⟨hI.1,by simp only;omega,hlt⟩) fun r hr=>Kvi ?_
 have hw:wi (s.2+1)=s.2+1:=Ktc (by omega) (by omega)
 refine⟨⟨hr,?_⟩,?_⟩
 ·simp only[hw];omega
 simp only[hw];omega
theorem Kwf(x:List Kxx)(h:x.length≤19):Ok (Kyt 1000000 x) (Kin x):=by
 unfold Kyt
 refine Kvj (P:=Kin x) ?_ fun r hr=>Kvi hr
 obtain⟨r,h1,h2⟩:=Kwe x 1000000 (by omega) (by omega)
 unfold Kys
 refine Kvk (r:=(x,0)) ?_ ?_
 ·refine Kwc ?_
  rw[dF (show ¬ (20:Int)≤x.length by omega)]
  rfl
 simp only
 refine Kvk h1 (Kvn (dT h2.1) ?_)
 first | refine Kvk (r:=()) ?_ (Kvi h2) | refine Kvk (r:=r) ?_ (Kvi h2)
 refine Kwc ?_
 rw[dF (show ¬ (20:Int)<x.length by omega)]
 rfl
end Go.Gk
namespace Go.Gk
theorem Kvg(s1 s2:List Str):Ok (Lbj s1 s2) fun b=>s1=s2→b=true:=by
 unfold Lbj
 refine Kvm (fun h=>Kvi fun e=>?_) fun h=>?_
 ·subst e;simp at h
 have hl:s1.length=s2.length:=by
  have:(s1.length:Int)=s2.length:=by simpa using h
  omega
 refine Kvj (Kvp (fun _ _=>True) (fun q=>s1=s2→q=true) trivial fun i x s hx _=>?_) fun r hr=>?_
 ·have hi:i<s1.length:=(gEs.1 hx).1
  refine Kvr (j:=i) (x:=s2[i]'(by omega)) rfl (gGe _) ?_
  refine Kvm (fun hn=>Kvi fun e=>?_) fun _=>Kvi trivial
  subst e
  rw[(gEs.1 hx).2] at hn
  simp at hn
 cases r with
 | out q=>exact Kvi hr
 | go s=>exact Kvi fun _=>rfl
theorem Kvh{α:Type}(p:α→Bool)(l:List α)(x:α):(l++[x]).find? p=(l.find? p).or (bif p x then some x else none):=by
 rw[List.find?_append,List.find?_cons]
 cases p x<;>rfl
abbrev Seen:=List (Kxy×Kxx)
abbrev St2:=Seen×(List Kxx)
abbrev Ro2:=(Seen×(List Kxx)) ⊕ ((List Kxx)×Int)
def SI(s:Seen)(l:List Kxx):Prop:=∀ y,mGet s (og y)=l.find? (fun z=>sameO z y)
theorem SI.put{s:Seen}{l:List Kxx}{x:Kxx}(h:SI s l)(hx:l.any (fun z=>sameO z x)=false):SI (mSet s (og x) x) (l++[x]):=fun y=>by
 rw[Kva,Kvb,Kvh,h y]
 cases hs:sameO x y with
 | false=>simp
 | true=>
  have:l.find? (fun z=>sameO z y)=none:=by
   rw[List.find?_eq_none]
   intro z hz
   have h1:=List.any_eq_false.1 hx z hz
   unfold sameO at hs h1 ⊢
   simp only[Bool.and_eq_true,beq_iff_eq] at hs h1 ⊢
   intro h2
   exact h1 ⟨h2.1.trans hs.1.symm,h2.2.trans hs.2.symm⟩
  rw[this];rfl
end Go.Gk
