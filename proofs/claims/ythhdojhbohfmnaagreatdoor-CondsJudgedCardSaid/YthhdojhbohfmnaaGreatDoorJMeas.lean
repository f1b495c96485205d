import Derived.Test.YthhdojhbohfmnaaGreatDoorTLoop
import Derived.Test.YthhdojhbohfmnaaGreatDoorJTime
set_option linter.all false
set_option maxRecDepth 100000
namespace Go.Gk
theorem Kuw{α:Type}{c:List α}{i:Nat}{a:α}(h:c[i]?=some a):c.take (i+1)=c.take i++[a]:=by
 rw[List.take_add_one,h];rfl
def cntQ(q:Int→Bool)(a:Int):Nat→Int
 | 0=>0
 | n+1=>cntQ q a n+(if q (a+n) then 1 else 0)
theorem Kux(q:Int→Bool)(a:Int)(n:Nat):∀ m:Nat,cntQ q a (n+m)=cntQ q a n+cntQ q (a+n) m
 | 0=>by simp[cntQ]
 | m+1=>by
  show cntQ q a (n+m)+(if q (a+((n+m:Nat):Int)) then 1 else 0)=_+(cntQ q (a+n) m+_)
  rw[Kux q a n m]
  have:a+((n+m:Nat):Int)=a+(n:Int)+(m:Int):=by omega
  rw[this];omega
theorem Kuy{q p:Int→Bool}{a:Int}:∀ (n:Nat),(∀ z,a≤z→z<a+n→q z=p z)→cntQ q a n=cntQ p a n
 | 0,_=>rfl
 | n+1,h=>by
  show cntQ q a n+_=cntQ p a n+_
  rw[Kuy n fun z h1 h2=>h z h1 (by omega),h (a+n) (by omega) (by omega)]
theorem Kuz(a:Int):∀ (n:Nat),cntQ (fun _=>true) a n=n
 | 0=>rfl
 | n+1=>by show cntQ _ a n+_=_;rw[Kuz a n];simp
theorem Kva(a:Int):∀ (n:Nat),cntQ (fun _=>false) a n=0
 | 0=>rfl
 | n+1=>by show cntQ _ a n+_=_;rw[Kva a n];simp
theorem Kvb(q:Int→Bool)(a:Int):∀ (n:Nat),cntQ q a n≤n
 | 0=>Int.le_refl _
 | n+1=>by
  show cntQ q a n+_≤_
  have:=Kvb q a n
  split<;>omega
def mS(q:Int→Bool)(a b:Int):Int:=cntQ q a (b - a).toNat
section
variable{q p:Int→Bool}{a b c:Int}
theorem Kvc(q:Int→Bool)(h1:a≤b)(h2:b≤c):mS q a c=mS q a b+mS q b c:=by
 unfold mS
 have e:(c - a).toNat=(b - a).toNat+(c - b).toNat:=by omega
 have e2:a+((b - a).toNat:Int)=b:=by omega
 rw[e,Kux,e2]
theorem Kvd(h:∀ z,a≤z→z<b→q z=p z):mS q a b=mS p a b:=Kuy _ fun z h1 h2=>h z h1 (by omega)
theorem Kve(h0:a≤b)(h:∀ z,a≤z→z<b→q z=true):mS q a b=b - a:=by
 rw[Kvd (p:=fun _=>true) h]
 unfold mS
 rw[Kuz];omega
theorem Kvf(h:∀ z,a≤z→z<b→q z=false):mS q a b=0:=by
 rw[Kvd (p:=fun _=>false) h]
 unfold mS
 rw[Kva]
theorem Kvg(q:Int→Bool)(h:a≤b):mS q a b≤b - a:=by
 have:=Kvb q a (b - a).toNat
 unfold mS
 omega
end
def ovW(A B a b:Int):Int:=if 0<(if b<B then b else B) - (if a>A then a else A) then(if b<B then b else B) - (if a>A then a else A) else 0
theorem Kvh(A B a b:Int):0≤ovW A B a b:=by unfold ovW;split<;>omega
abbrev inAB(A B z:Int):Bool:=decide (A≤z)&&decide (z<B)
theorem Kvi{A B a b:Int}(h:a≤b):mS (inAB A B) a b=ovW A B a b:=by
 unfold ovW
 generalize hb:(if b<B then b else B)=hi
 generalize ha:(if a>A then a else A)=lo
 have h1:hi≤b∧hi≤B∧(hi=b∨hi=B):=by split at hb<;>omega
 have h2:a≤lo∧A≤lo∧(lo=a∨lo=A):=by split at ha<;>omega
 split
 ·rw[Kvc _ (show a≤lo by omega) (show lo≤b by omega),Kvc _ (show lo≤hi by omega) (show hi≤b by omega),Kvf (a:=a) (b:=lo),Kvf (a:=hi) (b:=b),Kve]
  ·omega
  ·omega
  ·exact fun z g1 g2=>by simp;omega
  ·exact fun z g1 g2=>by simp;omega
  exact fun z g1 g2=>by simp;omega
 exact Kvf fun z g1 g2=>by simp;omega
theorem Kvj{A B a b:Int}{q:Int→Bool}{v:Bool}(h:a≤b)(hq:∀ z,a≤z→z<b→q z=v):mS (fun z=>q z&&inAB A B z) a b=if v then ovW A B a b else 0:=by
 cases v with
 | true=>rw[if_pos rfl,←Kvi h];exact Kvd fun z g1 g2=>by rw[hq z g1 g2,Bool.true_and]
 | false=>exact Kvf fun z g1 g2=>by rw[hq z g1 g2,Bool.false_and]
def sumC(A B:Int)(q:Int→Bool):List Int→Int
 | a :: b :: l=>(if q a then ovW A B a b else 0)+sumC A B q (b :: l)
 | _=>0
theorem Kvk{A B:Int}{q:Int→Bool}:∀ (l:List Int) (a e:Int),(a :: l).Pairwise (·≤·)→(a :: l).getLast?=some e→(∀ (i:Nat) x y,(a :: l)[i]?=some x→(a :: l)[i+1]?=some y→∀ z,x≤z→z<y→q z=q x)→mS (fun z=>q z&&inAB A B z) a e=sumC A B q (a :: l)
 | [],a,e,_,he,_=>by
  have he:a=e:=by simpa using he
  exact Kvf fun z g1 g2=>by omega
 | b :: l,a,e,hs,he,hq=>by
  have hp:=List.pairwise_cons.1 hs
  have he':(b :: l).getLast?=some e:=by rw[←he,List.getLast?_cons_cons]
  have hbe:b≤e:=by
   rcases List.mem_cons.1 (List.mem_of_getLast? he') with h | h
   ·omega
   exact(List.pairwise_cons.1 hp.2).1 e h
  have hab:=hp.1 b mCs
  rw[Kvc _ hab hbe,Kvj hab (hq 0 a b rfl rfl),Kvk l b e hp.2 he' fun i x y h1 h2=>hq (i+1) x y h1 h2]
  rfl
theorem Kvl(A B:Int)(q:Int→Bool)(a b:Int):∀ l:List Int,sumC A B q (l++[a,b])=sumC A B q (l++[a])+(if q a then ovW A B a b else 0)
 | []=>by simp[sumC]
 | [x]=>by
  show(if q x then ovW A B x a else 0)+((if q a then ovW A B a b else 0)+0)=(if q x then ovW A B x a else 0)+0+_
  omega
 | x :: y :: l=>by
  have:=Kvl A B q a b (y :: l)
  show(if q x then ovW A B x y else 0)+sumC A B q (y :: l++[a,b])=((if q x then ovW A B x y else 0)+sumC A B q (y :: l++[a]))+_
  omega
theorem Kvm(A B:Int)(q:Int→Bool){c:List Int}{i:Nat}{a b:Int}(ha:c[i]?=some a)(hb:c[i+1]?=some b):sumC A B q (c.take (i+2))=sumC A B q (c.take (i+1))+(if q a then ovW A B a b else 0):=by
 rw[Kuw hb,Kuw ha,List.append_assoc]
 exact Kvl A B q a b _
end Go.Gk
namespace Go.Gk
theorem Ktr{l:List Lcy}{fresh:Int}(hf:1≤fresh∧fresh≤345686400)(ha:Ats l){node:Str}(c:CC){a b:Int}(h:∀ z,a<z→z<b→¬ MomN l fresh node z):∀ (d:Nat),a+d<b→Vd l fresh node (a+d) c=Vd l fresh node a c
 | 0,_=>by simp
 | d+1,hd=>by
  rw[Kxq hf ha (h (a+((d+1:Nat):Int)) (by omega) hd) c,show a+((d+1:Nat):Int) - 1=a+(d:Int) by omega]
  exact Ktr hf ha c h d (by omega)
def hq(l:List Lcy)(fresh:Int)(node:Str)(c:CC)(t:Int):Bool:=decide (Vd l fresh node t c=1)
theorem Kts{l:List Lcy}{fresh:Int}(hf:1≤fresh∧fresh≤345686400)(ha:Ats l){node:Str}(c:CC){a b:Int}(h:∀ z,a<z→z<b→¬ MomN l fresh node z)(z:Int)(h1:a≤z)(h2:z<b):hq l fresh node c z=hq l fresh node c a:=by
 unfold hq
 have:=Ktr hf ha c h (z - a).toNat (by omega)
 rw[show a+((z - a).toNat:Int)=z by omega] at this
 rw[this]
section
variable{m:List (Lda×(Tl Lcy))}{al:List Bool}{l:List Lcy}(hI:InvR al m l)(hl:l.length≤900)(fresh:Int){k:Nat}(hk:3000≤k)(hf:1≤fresh∧fresh≤345686400)(ha:Ats l)
 {c:CC} (hw:c.WF) (hkc:c.dp<k) (hb:c.lf.length≤1000000) (node:Str) {w:Lcz} (hW:0≤w.From∧w.From≤w.To∧w.To≤345686400)
include hI hl hk hf ha hw hkc hb hW
theorem Ktt:∀ (L:List Int) (i:Nat) (s t:Int),L.Pairwise (fun a b=>b<w.To→a≤b)→w.From≤t→t≤w.To→s=mS (hq l fresh node c) w.From t→(∀ z,t<z→z<w.To→MomN l fresh node z→z∈L)→
  ∃ t',rangeF (σ:=Int×Int) (fun i19 x21 s20=>bif decide (((if w.To<x21 then w.To else x21):Int)≤s20.2) then(some (s20.1,s20.2)) else(bi (Lfl k ⟨fresh,m⟩ c.t node s20.2) fun y32=>bi (bif (y32:Int)==1 then(some (wi (s20.1+(wi ((if w.To<x21 then w.To else x21) - s20.2))))) else(some s20.1)) fun q34=>some (q34,(if w.To<x21 then w.To else x21)))) i L (s,t)=some (mS (hq l fresh node c) w.From t',t')∧t≤t'∧t'≤w.To∧∀ x∈L,(if w.To<x then w.To else x)≤t'
 | [],i,s,t,_,h1,h2,hs,_=>⟨t,by rw[hs];rfl,Int.le_refl _,h2,by simp⟩
 | x :: L,i,s,t,hp,h1,h2,hs,hm=>by
  obtain⟨p1,p2⟩:=List.pairwise_cons.1 hp
  have hx2:(if w.To<x then w.To else x)≤w.To∧(if w.To<x then w.To else x)≤x∧((if w.To<x then w.To else x)=w.To∨(if w.To<x then w.To else x)=x):=by split<;>omega
  simp only[rangeF]
  by_cases hc:(if w.To<x then w.To else x)≤t
  ·rw[dT hc,cond_true,bi_some]
   obtain⟨t',e1,e2,e3,e4⟩:=Ktt L (i+1) s t p2 h1 h2 hs fun z g1 g2 g3=>(List.mem_cons.1 (hm z g1 g2 g3)).elim (fun e=>by subst e;omega) id
   exact⟨t',e1,e2,e3,fun y hy=>(List.mem_cons.1 hy).elim (fun e=>by rw[e];omega) (e4 y)⟩
  ·rw[dF hc,cond_false,Kuv hI hl fresh node t k c hw hkc hb,bi_some]
   generalize hM:(if w.To<x then w.To else x)=M at hc hx2
   have hno:∀ z,t<z→z<M→¬ MomN l fresh node z:=fun z g1 g2 g3=>by
    rcases List.mem_cons.1 (hm z g1 (by omega) g3) with e | e
    ·omega
    ·have:=p1 z e (by omega)
     omega
   have hle:=Kvg (hq l fresh node c) h1
   have hsp:=Kvc (hq l fresh node c) h1 (show t≤M by omega)
   have hnn:0≤mS (hq l fresh node c) w.From t:=by
    unfold mS
    generalize (t - w.From).toNat=n
    induction n with
    | zero=>exact Int.le_refl _
    | succ n ih=>show 0≤cntQ _ _ n+_;split<;>omega
   have hstep:(bif ((c.sh.ev (c.lf.map (lv l fresh node t)):Int)==1) then(some (wi (s+(wi (M - t))))) else(some s))=some (mS (hq l fresh node c) w.From M):=by
    by_cases hv:Vd l fresh node t c=1
    ·rw[show((c.sh.ev (c.lf.map (lv l fresh node t)):Int)==1)=true by simpa [Vd] using hv,cond_true,Law (show -9223372036854775808≤M - t by omega) (by omega),Law (by omega) (by omega),hsp,Kve (show t≤M by omega) fun z g1 g2=>by rw[Kts hf ha c hno z g1 g2];exact dT hv,hs]
    ·rw[show((c.sh.ev (c.lf.map (lv l fresh node t)):Int)==1)=false by simpa [Vd] using hv,cond_false,hsp,Kvf (a:=t) (b:=M) fun z g1 g2=>by rw[Kts hf ha c hno z g1 g2];exact dF hv,hs,Int.add_zero]
   rw[hstep,bi_some,bi_some]
   obtain⟨t',e1,e2,e3,e4⟩:=Ktt L (i+1) _ M p2 (by omega) (by omega) rfl fun z g1 g2 g3=>(List.mem_cons.1 (hm z (by omega) g2 g3)).elim (fun e=>by subst e;omega) id
   exact⟨t',e1,by omega,e3,fun y hy=>(List.mem_cons.1 hy).elim (fun e=>by rw[e,hM];omega) (e4 y)⟩
theorem Ktu{M:List Int}(hM:∀ t,t∈M ↔ MomN l fresh node t)(hs:M.Pairwise (· < ·)):∃ t,rangeF (σ:=Int×Int) (fun i19 x21 s20=>bif decide (((if w.To<x21 then w.To else x21):Int)≤s20.2) then(some (s20.1,s20.2)) else(bi (Lfl k ⟨fresh,m⟩ c.t node s20.2) fun y32=>bi (bif (y32:Int)==1 then(some (wi (s20.1+(wi ((if w.To<x21 then w.To else x21) - s20.2))))) else(some s20.1)) fun q34=>some (q34,(if w.To<x21 then w.To else x21)))) 0 (M++[w.To]) (0,w.From)=some (mS (hq l fresh node c) w.From w.To,t):=by
 have h0:(0:Int)=mS (hq l fresh node c) w.From w.From:=by
  unfold mS
  rw[show(w.From - w.From).toNat=0 by omega];rfl
 obtain⟨t',e1,e2,e3,e4⟩:=Ktt hI hl fresh hk hf ha hw hkc hb node hW (M++[w.To]) 0 0 w.From (List.pairwise_append.2 ⟨hs.imp fun {a b} h _=>by omega,by simp,fun a _ b hb' hlt=>by rw[List.mem_singleton.1 hb'] at hlt;omega⟩) (Int.le_refl _) hW.2.1 h0 fun z _ _ g3=>List.mem_append_left _ ((hM z).2 g3)
 have:=e4 w.To (by simp)
 rw[if_neg (by omega)] at this
 have e:t'=w.To:=by omega
 subst e
 exact⟨_,e1⟩
theorem Ktv:Lgy k c.t l fresh node w=some (mS (hq l fresh node c) w.From w.To):=by
 obtain⟨M,m1,m2,m3,m4⟩:=Kvp hf ha hl hk
 have hrange:∀ t∈M,0≤t∧t≤345686400:=fun t ht=>by
  rcases(m4 t).1 ht with h | h | ⟨x,hx,h⟩
  ·omega
  ·omega
  have:=ha x hx
  rcases h with h | h
  ·omega
  split at h<;>omega
 have hne:M≠[]:=fun e=>by have:=(m4 0).2 (.inl rfl);rw[e] at this;simp at this
 obtain⟨a,M',hMM⟩:∃ a M',M=a :: M':=by
  cases M with
  | nil=>exact absurd rfl hne
  | cons a M'=>exact⟨a,M',rfl⟩
 have ha0:a=0:=by
  have h0:=(m4 0).2 (.inl rfl)
  rw[hMM] at h0 m2
  rcases List.mem_cons.1 h0 with e | e
  ·exact e.symm
  have:=(List.pairwise_cons.1 m2).1 0 e
  have:=(hrange a (by rw[hMM];exact mCs)).1
  omega
 have hlast:M.getLast?=some 345686400:=by
  have hE:=(m4 345686400).2 (.inr (.inl rfl))
  obtain⟨ys,e,hys⟩:∃ ys e,M=ys++[e]:=by
   rcases List.eq_nil_or_concat M with h | ⟨ys,e,h⟩
   ·exact absurd h hne
   exact⟨ys,e,by rw[h,List.concat_eq_append]⟩
  have hr:=hrange e (by rw[hys];simp)
  rw[hys] at hE m2 ⊢
  rw[show(ys++[e]).getLast?=some e by simp]
  congr 1
  rcases List.mem_append.1 hE with h | h
  ·have:=(List.pairwise_append.1 m2).2.2 _ h e (by simp)
   omega
  exact(List.mem_singleton.1 h).symm
 have hadj:∀ (i:Nat) x y,M[i]?=some x→M[i+1]?=some y→∀ z,x≤z→z<y→hq l fresh node c z=hq l fresh node c x:=fun i x y hx hy z g1 g2=>by
  refine Kts hf ha c (b:=y) (fun t t1 t2 t3=>?_) z g1 g2
  have hyr:=hrange y (mOg hy)
  obtain⟨cl,hc,_,hct⟩:=t3
  have hmem:t∈M:=(m4 t).2 (.inr (.inr ⟨cl,hc,hct.imp id fun e=>by rw[if_neg (by omega)];exact e⟩))
  obtain⟨j,hj⟩:=List.getElem?_of_mem hmem
  have hpw:=List.pairwise_iff_getElem.1 m2
  obtain⟨hj1,hj2⟩:=gEs.1 hj
  obtain⟨hi1,hi2⟩:=gEs.1 hx
  obtain⟨hk1,hk2⟩:=gEs.1 hy
  have c1:i<j:=by
   refine Classical.byContradiction fun hn=>?_
   by_cases e:j=i
   ·subst e;omega
   have:=hpw j i hj1 hi1 (by omega);omega
  have c2:j<i+1:=by
   refine Classical.byContradiction fun hn=>?_
   by_cases e:j=i+1
   ·subst e;omega
   have:=hpw (i+1) j hk1 hj1 (by omega);omega
  omega
 have hcut:mS (fun z=>hq l fresh node c z&&inAB w.From w.To z) 0 345686400=sumC w.From w.To (hq l fresh node c) M:=by
  have:=Kvk (A:=w.From) (B:=w.To) (q:=hq l fresh node c) M' a 345686400 (by rw[←hMM];exact m2.imp fun {a b} h=>by omega) (by rw[←hMM];exact hlast) (by rw[←hMM];exact hadj)
  rw[ha0] at this
  rw[hMM,ha0]
  exact this
 have hval:sumC w.From w.To (hq l fresh node c) M=mS (hq l fresh node c) w.From w.To:=by
  rw[←hcut,Kvc _ (show(0:Int)≤w.From from hW.1) (show w.From≤345686400 by omega),Kvc _ hW.2.1 hW.2.2,Kvf (a:=0) (b:=w.From) fun z g1 g2=>by simp;omega,
   Kvf (a:=w.To) (b:=345686400) fun z g1 g2=>by simp;omega,Kvd (a:=w.From) (b:=w.To) (p:=hq l fresh node c) fun z g1 g2=>by simp[g1,g2]]
  omega
 unfold Lgy
 rw[m1,bi_some]
 have hlen1:1≤M.length:=List.length_pos_iff.2 hne
 have hw1:wi ((M.length:Int) - 1)=((M.length - 1:Nat):Int):=by rw[Law (by omega) (by omega)];omega
 rw[hw1,dT (show((M.length - 1:Nat):Int)≤9223372036854775807 by omega)]
 have hloop:Ok (rangeG (σ:=Int) (fun i3 s4=>bi (getZ M (i3:Int)) fun x15=>bi (Lgs k c.t l fresh node x15) fun y17=>bif (y17:Int)==1 then(bi (getZ M (wi ((i3:Int)+1))) fun x20=>bi (getZ M (i3:Int)) fun x22=>some (wi (s4+(if (wi ((if w.To<x20 then w.To else x20) - (if w.From>x22 then w.From else x22)))>0 then wi ((if w.To<x20 then w.To else x20) - (if w.From>x22 then w.From else x22)) else 0)))) else(some s4)) ((M.length - 1:Nat):Int) 0) fun r=>r=mS (hq l fresh node c) w.From w.To:=by
  refine Kdq (Kdu (fun i (s:Int)=>s=sumC w.From w.To (hq l fresh node c) (M.take (i+1))∧0≤s∧s≤i * 345686400) ⟨?_,Int.le_refl _,by simp⟩ ?_) fun r hr=>?_
  ·rw[hMM];rfl
  ·intro i s hi ⟨i1,i2,i3⟩
   rw[Int.toNat_natCast] at hi
   have hxa:M[i]?=some (M[i]'(by omega)):=gGe _
   have hxb:M[i+1]?=some (M[i+1]'(by omega)):=gGe _
   generalize M[i]'(by omega)=a at hxa
   generalize M[i+1]'(by omega)=b at hxb
   have ra:=hrange a (mOg hxa)
   have rb:=hrange b (mOg hxb)
   have hst2:=Kvm w.From w.To (hq l fresh node c) hxa hxb
   have hov:=Kvh w.From w.To a b
   have hov2:ovW w.From w.To a b≤345686400:=by unfold ovW;split<;>(try split)<;>(try split)<;>omega
   refine Kdx (j:=i) rfl hxa (Kdp (Kut hI hl fresh node a k c hw hkc hb) ?_)
   refine Kdr (fun hv=>?_) (fun hv=>Kdn ?_)
   ·have hqa:hq l fresh node c a=true:=dT (show Vd l fresh node a c=1 from eq_of_beq hv)
    rw[hqa,if_pos rfl] at hst2
    have hwi:wi ((i:Int)+1)=((i+1:Nat):Int):=by rw[Law (by omega) (by omega)];omega
    rw[hwi]
    refine Kdx (j:=i+1) rfl hxb (Kdx (j:=i) rfl hxa (Kdn ?_))
    have e1:wi ((if w.To<b then w.To else b) - (if w.From>a then w.From else a))=(if b<w.To then b else w.To) - (if a>w.From then a else w.From):=by
     have e1:(if w.To<b then w.To else b)=(if b<w.To then b else w.To):=by split<;>split<;>omega
     have e2:(if w.From>a then w.From else a)=(if a>w.From then a else w.From):=by split<;>split<;>omega
     rw[e1,e2]
     rw[Law (by split<;>split<;>omega) (by split<;>split<;>omega)]
    rw[e1]
    have hovd:(if (if b<w.To then b else w.To) - (if a>w.From then a else w.From)>0 then(if b<w.To then b else w.To) - (if a>w.From then a else w.From) else 0)=ovW w.From w.To a b:=rfl
    rw[hovd]
    have hi2:(i:Int) * 345686400≤2000 * 345686400:=by omega
    rw[Law (by omega) (by omega)]
    refine⟨by rw[hst2,i1],by omega,?_⟩
    rw[Int.natCast_add,Int.add_mul]
    omega
   have hqa:hq l fresh node c a=false:=dF (show ¬ Vd l fresh node a c=1 from fun e=>by rw[←Bool.not_eq_true] at hv;exact hv (by simpa [Vd] using e))
   rw[hqa,if_neg (by simp),Int.add_zero] at hst2
   refine⟨by rw[hst2,i1],i2,?_⟩
   rw[Int.natCast_add,Int.add_mul]
   omega
  rw[Int.toNat_natCast,show M.length - 1+1=M.length by omega,List.take_length] at hr
  rw[hr.1,hval]
 obtain⟨r,r1,r2⟩:=hloop
 show bi (rangeG _ _ _) _=_
 rw[r1,bi_some,r2]
end
end Go.Gk
