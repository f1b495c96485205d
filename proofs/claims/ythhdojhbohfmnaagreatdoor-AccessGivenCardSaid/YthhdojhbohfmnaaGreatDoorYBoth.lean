import Derived.Test.YthhdojhbohfmnaaGreatDoorYEnd
set_option linter.all false
set_option maxRecDepth 100000
namespace Go.Gk
def fE{α:Type}(E:Nat→α→Int):Nat→List α→Int
 | _,[]=>0
 | i,x :: l=>if E i x=0 then fE E (i+1) l else E i x
theorem Lfq{α ρ:Type}{f:Nat→α→Unit→Option (LS Unit ρ)}(w:Int→ρ)(E:Nat→α→Int):∀ (l:List α) (i:Nat),(∀ j x,l[j]?=some x→f (i+j) x ()=some (if E (i+j) x=0 then .go () else .out (w (E (i+j) x))))→
  rangeM f i l ()=some (if fE E i l=0 then .go () else .out (w (fE E i l)))
 | [],i,_=>by simp[rangeM,fE]
 | x :: l,i,h=>by
  have h0:=h 0 x rfl
  rw[Nat.add_zero] at h0
  by_cases he:E i x=0
  ·have e:fE E i (x :: l)=fE E (i+1) l:=by
    show(if E i x=0 then fE E (i+1) l else E i x)=_
    exact if_pos he
   rw[e]
   rw[if_pos he] at h0
   simp only[rangeM,h0]
   exact Lfq w E l (i+1) fun j y hy=>by rw[show i+1+j=i+(j+1) by omega];exact h (j+1) y (by simpa using hy)
  ·have e:fE E i (x :: l)=E i x:=by
    show(if E i x=0 then fE E (i+1) l else E i x)=_
    exact if_neg he
   rw[e,if_neg he]
   rw[if_neg he] at h0
   simp only[rangeM,h0]
theorem Lfr{α:Type}{E:Nat→α→Int}:∀ (l:List α) (i:Nat),fE E i l=0→∀ j x,l[j]?=some x→E (i+j) x=0
 | [],i,_,j,x,hx=>by simp at hx
 | y :: l,i,h,j,x,hx=>by
  unfold fE at h
  by_cases he:E i y=0
  ·rw[if_pos he] at h
   cases j with
   | zero=>
    simp at hx
    subst hx
    exact he
   | succ j=>
    rw[show i+(j+1)=i+1+j by omega]
    exact Lfr l (i+1) h j x (by simpa using hx)
  rw[if_neg he] at h;exact absurd h he
def FacD(l:List Kwl):Prop:=l.length≤100∧∀ x∈l,x.Node.length≤1000∧x.Posture.length≤1000
def facE(l:List Kwl)(j:Nat)(x:Kwl):Int:=if (!keyB x.Node||!keyB x.Posture)=true then 5 else if 0<j∧((l[j - 1]?).map fun y=>decide (cFa y x≥0))=some true then 7 else 0
def lsE(l:List Kwl):Int:=fE (facE l) 0 l
theorem facR{l:List Kwl}(h:FacD l):Kzl l=some (lsE l):=by
 unfold Kzl
 have hlen:=h.1
 rw[dF (show ¬ ((l.length:Int):Int)>2000 by omega)]
 simp only[cond_false]
 rw[Lfq (fun e=>e) (facE l) l 0 (fun j x hx=>by
  have hj:=(gEs.1 hx).1
  obtain⟨h1,h2⟩:=h.2 x (mOg hx)
  simp only[Nat.zero_add]
  rw[keyR x.Node (by omega),keyR x.Posture (by omega)]
  simp only[bi_some]
  have e1:(bif !keyB x.Node then some true else some !keyB x.Posture)=some (!keyB x.Node||!keyB x.Posture):=by cases keyB x.Node<;>rfl
  rw[e1,bi_some]
  unfold facE
  cases hb:(!keyB x.Node||!keyB x.Posture) with
  | true=>rfl
  | false=>
   simp only[cond_false,Bool.false_eq_true,if_false]
   by_cases hj0:0<j
   ·rw[dT (show(j:Int)>0 by omega),cond_true,Kuq (by omega) (by omega),show(j:Int) - 1=((j - 1:Nat):Int) by omega,Kvu (gGe (show j - 1<l.length by omega)),bi_some,Lln,bi_some,bi_some,gGe (show j - 1<l.length by omega)]
    cases hd:decide (cFa l[j - 1] x≥0) with
    | true=>rw[Lhr ⟨hj0,by simp[hd]⟩];rfl
    | false=>rw[Lhs (fun h=>by have:=h.2;simp[hd] at this)];rfl
   rw[dF (show ¬ (j:Int)>0 by omega),Lhs (fun h=>hj0 h.1)];rfl)]
 show _=some (fE (facE l) 0 l)
 by_cases e:fE (facE l) 0 l=0
 ·rw[if_pos e,e];rfl
 rw[if_neg e];rfl
theorem facP{k:Nat}(hk:2000<k){l:List Kwl}(h:FacD l)(s2:Int):(bif decide (((l.length:Int):Int)>2000) then(bi (some (([]:List Kwl),(2:Int))) fun v=>some (.out (.inr v))) else(bi (rangeM (σ:=Unit) (ρ:=LS Int (Unit ⊕ ((List Kwl)×Int))) (fun i18 x20 s19=>bi (Kxd k x20.Node) fun y29=>bi (bif !y29 then(some true) else(bi (Kxd k x20.Posture) fun y35=>some (!y35))) fun q31=>bif q31 then(bi (bi (some (([]:List Kwl),(5:Int))) fun v=>some (.out (.inr v))) fun v=>some (.out v)) else(bi (bif decide (((i18:Int):Int)>0) then(bi (getZ l (wi ((i18:Int) - 1))) fun x46=>bi (Kye x46 x20) fun y48=>some (decide ((y48:Int)≥0))) else(some false)) fun q43=>bif q43 then(bi (bi (some (([]:List Kwl),(7:Int))) fun v=>some (.out (.inr v))) fun v=>some (.out v)) else(some (.go ())))) 0 l ()) fun q=>goI q fun a23=>some (.go (wi (s2+1)))))=some (if lsE l=0 then(.go (wi (s2+1)):LS Int (Unit ⊕ ((List Kwl)×Int))) else .out (.inr ([],lsE l))):=by
 have hlen:=h.1
 rw[dF (show ¬ ((l.length:Int):Int)>2000 by omega)]
 simp only[cond_false]
 rw[Lfq (fun e=>(.out (.inr ([],e)):LS Int (Unit ⊕ ((List Kwl)×Int)))) (facE l) l 0 (fun j x hx=>by
  have hj:=(gEs.1 hx).1
  obtain⟨h1,h2⟩:=h.2 x (mOg hx)
  simp only[Nat.zero_add]
  rw[keyP k x.Node (by omega) (by omega),keyP k x.Posture (by omega) (by omega)]
  simp only[bi_some]
  have e1:(bif !keyB x.Node then some true else some !keyB x.Posture)=some (!keyB x.Node||!keyB x.Posture):=by cases keyB x.Node<;>rfl
  rw[e1,bi_some]
  unfold facE
  cases hb:(!keyB x.Node||!keyB x.Posture) with
  | true=>rfl
  | false=>
   simp only[cond_false,Bool.false_eq_true,if_false]
   by_cases hj0:0<j
   ·rw[dT (show(j:Int)>0 by omega),cond_true,Kuq (by omega) (by omega),show(j:Int) - 1=((j - 1:Nat):Int) by omega,Kvu (gGe (show j - 1<l.length by omega)),bi_some,cmpF,bi_some,bi_some,gGe (show j - 1<l.length by omega)]
    cases hd:decide (cFa l[j - 1] x≥0) with
    | true=>rw[Lhr ⟨hj0,by simp[hd]⟩];rfl
    | false=>rw[Lhs (fun h=>by have:=h.2;simp[hd] at this)];rfl
   rw[dF (show ¬ (j:Int)>0 by omega),Lhs (fun h=>hj0 h.1)];rfl)]
 show _=some (if fE (facE l) 0 l=0 then(LS.go (wi (s2+1)):LS Int (Unit ⊕ ((List Kwl)×Int))) else LS.out (.inr ([],fE (facE l) 0 l)))
 by_cases e:fE (facE l) 0 l=0
 ·rw[if_pos e,if_pos e];rfl
 rw[if_neg e,if_neg e];rfl
theorem Lfs{a b c:Kwl}(h1:ltF a b=true)(h2:ltF b c=true):ltF a c=true:=by
 cases h:ltF a c with
 | true=>rfl
 | false=>
  have:=Ljw _ _ _ h (Ljv _ _ h2)
  rw[h1] at this;cases this
theorem Lft{l:List Kwl}(h:lsE l=0):l.Pairwise fun x y=>ltF x y=true:=by
 have z:=Lfr l 0 h
 have adj:∀ i (hi:i+1<l.length),ltF l[i] l[i+1]=true:=fun i hi=>by
  have:=z (i+1) l[i+1] (gGe hi)
  unfold facE at this
  simp only[Nat.zero_add] at this
  split at this
  ·cases this
  split at this
  ·cases this
  rename_i hn
  rw[←Ljt]
  refine dT ?_
  refine Classical.byContradiction fun hc=>hn ⟨by omega,?_⟩
  rw[show i+1 - 1=i by omega,gGe (show i<l.length by omega)]
  simp only[Option.map_some,Option.some.injEq,decide_eq_true_eq]
  omega
 refine List.pairwise_iff_getElem.2 fun i j hi hj hij=>?_
 obtain⟨d,rfl⟩:∃ d,j=i+1+d:=⟨j - (i+1),by omega⟩
 clear hij
 revert hj
 induction d with
 | zero=>intro hj;exact adj i hj
 | succ d ih=>intro hj;exact Lfs (ih (by omega)) (adj (i+1+d) hj)
theorem Lfu{k:Nat}(hk:2000<k){a b:List Kwl}(ha:FacD a)(hb:FacD b):Kzk k a b=some (if lsE a≠0 then([],lsE a) else if lsE b≠0 then([],lsE b) else(riseF (a++b),0)):=by
 obtain⟨n,rfl⟩:∃ n,k=n+3:=⟨k - 3,by omega⟩
 have la:=ha.1
 have lb:=hb.1
 unfold Kzk
 have w1:wi (0+1)=1:=by decide
 have w2:wi (1+1)=2:=by decide
 have tail:(bi (Kyd a) fun y58=>bi (apd y58 b) fun y60=>bi (Kyg (n+3) y60) fun y62=>bif decide (((y62.length:Int):Int)>2000) then(some ([],(2:Int))) else(some (y62,0)))=some (riseF (a++b),0):=by
  unfold Kyd
  rw[Kux (by simp;omega),bi_some,bi_some,List.nil_append,Kux (by omega),bi_some,Lig (n+3) (a++b) (by simp;omega) (by simp;omega),bi_some]
  have:=Lgf (a++b)
  rw[List.length_append] at this
  rw[dF (by omega)]
  rfl
 by_cases ea:lsE a=0
 ·rw[if_neg (by simpa using ea)]
  rw[Kbs (s':=1) (by
   simp only[decide_eq_true (show((0:Int)<2) by decide),cond_true]
   rw[show getZ ([a,b]:List (List Kwl)) 0=some a from rfl,bi_some,facP hk ha 0,if_pos ea,w1])]
  by_cases eb:lsE b=0
  ·rw[if_neg (by simpa using eb)]
   rw[Kbs (s':=2) (by
    simp only[decide_eq_true (show((1:Int)<2) by decide),cond_true]
    rw[show getZ ([a,b]:List (List Kwl)) 1=some b from rfl,bi_some,facP hk hb 1,if_pos eb,w2])]
   rw[Kbt (r:=.inl ()) (by simp)]
   exact tail
  rw[if_pos (by simpa using eb)]
  rw[Kbt (r:=.inr ([],lsE b)) (by
   simp only[decide_eq_true (show((1:Int)<2) by decide),cond_true]
   rw[show getZ ([a,b]:List (List Kwl)) 1=some b from rfl,bi_some,facP hk hb 1,if_neg eb])]
  rfl
 rw[if_pos (by simpa using ea)]
 rw[Kbt (r:=.inr ([],lsE a)) (by
  simp only[decide_eq_true (show((0:Int)<2) by decide),cond_true]
  rw[show getZ ([a,b]:List (List Kwl)) 0=some a from rfl,bi_some,facP hk ha 0,if_neg ea])]
 rfl
theorem Lld(s:List Kwl)(v:Kwl):Las s v=some (decide (v∈s)):=by
 unfold Las Lar
 rcases Lgi (fun x:Kwl=>eqFa v x) (fun i _=>(i:Int)) (f:=fun i1 x3 s2=>bif (((v.Node:Str)==x3.Node)&&(((v.Posture:Str)==x3.Posture)&&true)) then(bi (some (i1:Int)) fun v=>some (.out v)) else(some (.go ()))) (fun i x=>rfl) s 0 with⟨h1,h2⟩ | ⟨j,x,h1,h2,h3,h4⟩
 ·rw[h2]
  have:¬ v∈s:=fun hm=>by
   have:=List.find?_eq_none.1 h1 v hm
   rw[Lfx] at this
   simp at this
  rw[dF this];rfl
 rw[h4]
 rw[Lfx] at h3
 have hv:v=x:=of_decide_eq_true h3
 rw[dT (by rw[hv];exact mOg h1),Nat.zero_add]
 simp
theorem Lfv{k:Nat}(hk:2000<k){a b:List Kwl}(ha:FacD a)(hb:FacD b)(ea:lsE a=0)(eb:lsE b=0):Lat k a b=some (riseF (a++b),true):=by
 have la:=ha.1
 have lb:=hb.1
 have sa:=Lft ea
 have sb:=Lft eb
 have ne:∀ x y,ltF x y=true→x≠y:=fun x y h e=>by subst e;rw[Ljy] at h;cases h
 unfold Lat Kyd
 rw[Kux (by simp;omega),bi_some,bi_some,List.nil_append]
 have loop:∀ (L:List Kwl) (i:Nat) (acc:List Kwl),L.Nodup→acc.Nodup→acc.length+L.length≤100000→
   ∃ r,rangeF (σ:=List Kwl) (fun i3 x5 s4=>bi (Las s4 x5) fun y14=>bif !y14 then(bi (apd s4 [x5]) fun y17=>some y17) else(some s4)) i L acc=some r∧r.Nodup∧r.length≤acc.length+L.length∧∀ x,x∈r ↔ x∈acc∨x∈L:=by
  intro L
  induction L with
  | nil=>intro i acc _ h _;exact⟨acc,rfl,h,by simp,fun x=>by simp⟩
  | cons y L ih=>
   intro i acc hd h hl
   simp only[List.length_cons] at hl
   obtain⟨d1,d2⟩:=List.nodup_cons.1 hd
   simp only[rangeF,Lld,bi_some]
   by_cases hm:y∈acc
   ·rw[dT hm]
    simp only[Bool.not_true,cond_false,bi_some]
    obtain⟨r,r1,r2,r3,r4⟩:=ih (i+1) acc d2 h (by omega)
    simp only[Lld,bi_some] at r1
    refine⟨r,r1,r2,by simp only[List.length_cons];omega,fun x=>?_⟩
    rw[r4,List.mem_cons]
    constructor
    ·rintro(h | h)
     ·exact .inl h
     ·exact .inr (.inr h)
    ·rintro(h | rfl | h)
     ·exact .inl h
     ·exact .inl hm
     ·exact .inr h
   ·rw[dF hm]
    simp only[Bool.not_false,cond_true]
    rw[Kux (by simp;omega),bi_some,bi_some]
    obtain⟨r,r1,r2,r3,r4⟩:=ih (i+1) (acc++[y]) d2 (by
     rw[List.nodup_append]
     exact⟨h,by simp,fun x hx z hz=>by simp only[List.mem_singleton] at hz;subst hz;exact fun e=>hm (e▸hx)⟩) (by simp;omega)
    simp only[Lld,bi_some] at r1
    refine⟨r,r1,r2,by simp only[List.length_cons];simp at r3;omega,fun x=>?_⟩
    rw[r4]
    simp only[List.mem_append,List.mem_singleton,List.mem_cons,or_assoc,List.not_mem_nil,false_or]
 obtain⟨r,r1,r2,r3,r4⟩:=loop b 0 a (sb.imp fun h=>ne _ _ h) (sa.imp fun h=>ne _ _ h) (by omega)
 rw[r1,bi_some]
 refine Llr (by omega) ?_
 rw[show decide ((srtF r).length=r.length)=true from dT (Lkb r).length_eq,gd_true]
 have hs:(srtF r).Pairwise fun x y=>ltF x y=true:=by
  have h1:=Lka r
  have h2:(srtF r).Nodup:=(Lkb r).nodup_iff.2 r2
  refine List.Pairwise.imp₂ (fun x y h3 h4=>?_) h1 h2
  cases h:ltF x y with
  | true=>rfl
  | false=>exact absurd (Ljx _ _ h h3) h4
 have he:srtF r=riseF (a++b):=Lgc hs (Lgd _) fun x=>by
  rw[(Lkb r).mem_iff,Lge,r4,List.mem_append]
 rw[←he]
 have hlen:(srtF r).length≤200:=by rw[(Lkb r).length_eq];omega
 refine Kvf (I:=fun i:Int=>1≤i) (μ:=fun i=>((srtF r).length+1 - i.toNat)) (Q:=fun q=>q=.inl ()) ?_ (by decide) (by simp;omega) ?_
 ·intro i hi
  by_cases hlt:i<(srtF r).length
  ·rw[dT hlt]
   simp only[cond_true]
   obtain⟨j,rfl⟩:=Int.eq_ofNat_of_zero_le (show 0≤i by omega)
   have w1:wi ((j:Int) - 1)=((j - 1:Nat):Int):=by rw[Kuq (by omega) (by omega)];omega
   have w2:wi ((j:Int)+1)=((j+1:Nat):Int):=by rw[Kuq (by omega) (by omega)];omega
   rw[w1,Kvu (gGe (show j - 1<(srtF r).length by omega)),bi_some,Kvu (gGe (show j<(srtF r).length by omega)),bi_some,Lln,bi_some]
   have h1:ltF (srtF r)[j - 1] (srtF r)[j]=true:=List.pairwise_iff_getElem.1 hs (j - 1) j (by omega) (by omega) (by omega)
   rw[←Ljt] at h1
   have h2:=of_decide_eq_true h1
   rw[show((cFa (srtF r)[j - 1] (srtF r)[j]:Int)==0)=false by simp;omega,cond_false,w2]
   exact .inr ⟨_,rfl,by omega,by simp;omega⟩
  rw[dF hlt]
  exact .inl ⟨_,rfl,rfl⟩
 rintro q rfl
 rfl
theorem Lfw{k:Nat}(hk:2000<k){a b:List Kwl}(ha:FacD a)(hb:FacD b)(ea:lsE a=0)(eb:lsE b=0):Lau k a b=some (riseF (a++b),0):=by
 unfold Lau
 rw[Lfv hk ha hb ea eb,bi_some]
 have:=Lgf (a++b)
 have la:=ha.1
 have lb:=hb.1
 rw[List.length_append] at this
 simp only
 rw[dF (by omega)]
 rfl
end Go.Gk
namespace Go.Gk
theorem Lgp{l:List Int}{b:Int}{s:Kwe}(h:At l 0 b s)(n:Int)(hl:l.length≤9223372036854775807)(h1:b<4000000000000000000)(hn:1≤n)(hn2:n≤4611686018427387904) :
  Ok (Kwu s n) fun r=>0≤r.1∧r.1<n∧At l 0 (b+1) r.2:=by
 obtain⟨e1,e2,e3⟩:=h
 obtain⟨c,c0,c1,hc⟩:=Kut l s.v_at n hl (by omega) (by omega) hn hn2
 rw[←e1] at hc
 exact⟨_,hc,c0,c1,e1,by simp only;omega,by simp only;omega⟩
theorem Lgq{l:List Int}{b:Int}{s:Kwe}(h:At l 0 b s)(n:Int)(hl:l.length≤9223372036854775807)(h1:b<4000000000000000000)(hn:1≤n)(hn2:n≤4611686018427387904) :
  Ok (Kwv s n) fun r=>At l 0 (b+1) r.2:=Kbz (Kcx h n hl (by omega) (by omega) hn hn2) fun r h=>h.up (by omega) (by omega)
theorem Lgr{l:List Int}{b:Int}{s:Kwe}(h:At l 0 b s)(xs:List Int)(hl:l.length≤9223372036854775807)(h1:b<4000000000000000000)(hn:1≤xs.length)(hn2:xs.length≤1000) :
  Ok (Kwx s xs) fun r=>r.1∈xs∧At l 0 (b+1) r.2:=Kbz (Kcy h xs hl (by omega) (by omega) hn hn2) fun r h=>⟨h.1,h.2.up (by omega) (by omega)⟩
theorem Lgs{l:List Int}{b:Int}{s:Kwe}(h:At l 0 b s)(xs:List Str)(hl:l.length≤9223372036854775807)(h1:b<4000000000000000000)(hn:1≤xs.length)(hn2:xs.length≤1000) :
  Ok (Kwy s xs) fun r=>r.1∈xs∧At l 0 (b+1) r.2:=Kbz (Kcz h xs hl (by omega) (by omega) hn hn2) fun r h=>⟨h.1,h.2.up (by omega) (by omega)⟩
theorem Lgt{l:List Int}{b:Int}{s:Kwe}(h:At l 0 b s)(hl:l.length≤9223372036854775807)(h1:b<3000000000000000000) :
  Ok (Kxc s) fun r=>At l 0 (b+20) r.2:=by
 unfold Kxc
 refine Kbx (Lgp h 300 hl (by omega) (by omega) (by omega)) fun y1 ⟨_,_,t1⟩=>?_
 refine Kbx (Lgp t1 300 hl (by omega) (by omega) (by omega)) fun y3 ⟨_,_,t3⟩=>?_
 refine Kbx (Lgr t3 _ hl (by omega) (by simp) (by simp)) fun y5 ⟨_,t5⟩=>?_
 exact Kbx (Lgr t5 _ hl (by omega) (by simp) (by simp)) fun y7 ⟨_,t7⟩=>Kbw (t7.up (by omega) (by omega))
theorem Lgu{l:List Int}{b:Int}{s:Kwe}(h:At l 0 b s)(lo hi:Int)(hl:l.length≤9223372036854775807)(h1:b<4000000000000000000)(h2:lo≤hi)(h3 : -1000000000≤lo)(h4:hi≤1000000000) :
  Ok (Kww s lo hi) fun r=>lo≤r.1∧r.1≤hi∧At l 0 (b+1) r.2:=Kbz (Kda h lo hi hl (by omega) (by omega) h2 h3 h4) fun r h=>⟨h.1,h.2.1,h.2.2.up (by omega) (by omega)⟩
theorem Lgv{l:List Int}{b:Int}{s:Kwe}(h:At l 0 b s)(lo hi:Int)(hl:l.length≤9223372036854775807)(h1:b<4000000000000000000)(h2:lo≤hi)(h3 : -1000000000≤lo)(h4:hi≤1000000000) :
  Ok (Kwz s lo hi) fun r=>At l 0 (b+5) r.2:=Kdb h lo hi hl (by omega) (by omega) h2 h3 h4
theorem Lgw{α:Type}{xs:List α}{i:Int}{p:α→Prop}(hp:∀ x∈xs,p x)(h0:0≤i)(h1:i<xs.length):Ok (getZ xs i) p:=by
 obtain⟨x,hx,e⟩:=Kuv xs h0 h1
 exact⟨x,e,hp x hx⟩
def AccN(n:Nat)(R:List Kwf):Prop:=R.length≤n∧∀ x∈R,x.Posture.length≤1000∧x.Approvers.length≤1000∧∀ s∈x.Approvers,s.length≤1000
theorem AccN.app{n:Nat}{R:List Kwf}(h:AccN n R){x:Kwf}(h1:x.Posture.length≤1000)(h2:x.Approvers.length≤1000)(h3:∀ s∈x.Approvers,s.length≤1000):AccN (n+1) (R++[x]):=
 ⟨by have:=h.1;simp;omega,fun y hy=>(List.mem_append.1 hy).elim (h.2 y) fun e=>by rw[List.mem_singleton.1 e];exact⟨h1,h2,h3⟩⟩
theorem AccN.up{n m:Nat}{R:List Kwf}(h:AccN n R)(hm:n≤m):AccN m R:=⟨Nat.le_trans h.1 hm,h.2⟩
theorem Lgx{l:List Int}(hl:l.length≤9223372036854775807){b:Int}{s:Kwe}(h:At l 0 b s)(h0:0≤b)(h1:b<1000000000000000000) :
  Ok (Kxa s) fun r=>AccD r.1∧At l 0 (b+100) r.2:=by
 unfold Kxa
 refine Kbx (Kcc (fun i (q:Kwe×(List Kwf))=>AccN i q.2∧At l 0 (b+10 * i) q.1) ⟨⟨Nat.le_refl _,fun x hx=>by cases hx⟩,h.up (by omega) (by omega)⟩ fun i x s2 hx ⟨hA,hT⟩=>?_) fun q ⟨qA,qT⟩=>?_
 ·have hi:i<2:=(gEs.1 hx).1
  have hxl:x.length≤1000:=by
   have:=mOg hx
   simp only[List.mem_cons,List.not_mem_nil,or_false] at this
   rcases this with e | e<;>simp[e]
  refine Kbx (Lgq hT 5 hl (by omega) (by omega) (by omega)) fun y12 t12=>?_
  refine Kca (fun _=>?_) (fun _=>Kbw ⟨hA.up (by omega),t12.up (by omega) (by simp only[Int.natCast_add];omega)⟩)
  refine Kbx (Lgp t12 3 hl (by omega) (by omega) (by omega)) fun y15 ⟨c0,c1,t15⟩=>?_
  refine Kbx (Lgw (p:=fun L:List Str=>1≤L.length∧L.length≤1000∧∀ s∈L,s.length≤1000) (by decide) c0 (by simpa using c1)) fun x17 ⟨x1,x2,x3⟩=>?_
  refine Kbx (Lgu t15 1 _ hl (by omega) (by split<;>omega) (by omega) (by split<;>omega)) fun y19 ⟨_,_,t19⟩=>?_
  refine Kbx (Lgr t19 _ hl (by omega) (by simp) (by simp)) fun y21 ⟨_,t21⟩=>?_
  refine Kbx (Lgr t21 _ hl (by omega) (by simp) (by simp)) fun y23 ⟨_,t23⟩=>?_
  refine Kch (by have:=hA.1;simp;omega) (Kbw ⟨hA.app hxl x2 x3,t23.up (by omega) (by simp only[Int.natCast_add];omega)⟩)
 ·have qA':AccN 2 q.2:=qA
  have qT':At l 0 (b+20) q.1:=qT.up (by omega) (by simp)
  refine Kbx (Lgq qT' 20 hl (by omega) (by omega) (by omega)) fun y28 t28=>?_
  refine Kbx (P:=fun z:Kwe×List Kwf=>AccD z.2∧At l 0 (b+100) z.1) ?_ fun z ⟨z1,z2⟩=>Kbw ⟨z1,z2⟩
  refine Kca (fun _=>?_) (fun _=>Kbw ⟨qA'.up (by omega),t28.up (by omega) (by omega)⟩)
  refine Kbx (Lgs t28 _ hl (by omega) (by simp) (by simp)) fun y33 ⟨m33,t33⟩=>?_
  have hx:y33.1.length≤1000:=by
   simp only[List.mem_cons,List.not_mem_nil,or_false] at m33
   rcases m33 with e | e | e<;>simp[e]
  refine Kbx (Lgp t33 3 hl (by omega) (by omega) (by omega)) fun y35 ⟨c0,c1,t35⟩=>?_
  refine Kbx (Lgw (p:=fun L:List Str=>L.length≤1000∧∀ s∈L,s.length≤1000) (by decide) c0 (by simpa using c1)) fun x37 ⟨x2,x3⟩=>?_
  refine Kbx (Lgv t35 1 1 hl (by omega) (by omega) (by omega) (by omega)) fun y39 t39=>?_
  refine Kbx (Lgv t39 1 345686400 hl (by omega) (by omega) (by omega) (by omega)) fun y41 t41=>?_
  refine Kbx (Lgv t41 1 5 hl (by omega) (by omega) (by omega) (by omega)) fun y43 t43=>?_
  refine Kch (by have:=qA'.1;simp;omega) (Kbw ⟨(qA'.app hx x2 x3).up (by omega),t43.up (by omega) (by omega)⟩)
def AskS(a:Kwg):Prop:=a.Key.length≤1000∧a.By.length≤1000∧a.Node.length≤1000∧a.Posture.length≤1000
def AskN(n:Nat)(l:List Kwg):Prop:=l.length≤n∧∀ a∈l,AskS a
theorem AskN.app{n:Nat}{l:List Kwg}(h:AskN n l){a:Kwg}(ha:AskS a):AskN (n+1) (l++[a]):=⟨by have:=h.1;simp;omega,fun y hy=>(List.mem_append.1 hy).elim (h.2 y) fun e=>by rw[List.mem_singleton.1 e];exact ha⟩
theorem AskN.put{n:Nat}{l:List Kwg}(h:AskN n l){a:Kwg}(ha:AskS a)(i:Nat):AskN n (l.set i a):=⟨by rw[List.length_set];exact h.1,fun y hy=>(List.mem_or_eq_of_mem_set hy).elim (h.2 y) fun e=>by rw[e];exact ha⟩
theorem AskN.up{n m:Nat}{l:List Kwg}(h:AskN n l)(hm:n≤m):AskN m l:=⟨Nat.le_trans h.1 hm,h.2⟩
theorem Lgy{l:List Int}(hl:l.length≤9223372036854775807){b:Int}{s:Kwe}(h:At l 0 b s)(h0:0≤b)(h1:b<1000000000000000000){many:Int}(hm0:0≤many)(hm:many≤14) :
  Ok (Kxb s many) fun r=>AskD r.1∧At l 0 (b+500) r.2:=by
 unfold Kxb
 refine Kbx (Lgp h 5 hl (by omega) (by omega) (by omega)) fun y1 ⟨_,_,t1⟩=>?_
 refine Kbx (Kcb (dT (by omega)) (Kcd (fun i (q:Kwe×(List Kwg)×Int)=>AskN i q.2.1∧At l 0 (b+1+10 * i) q.1) ⟨⟨Nat.le_refl _,fun x hx=>by cases hx⟩,t1.up (by omega) (by omega)⟩ fun i s4 hi ⟨hA,hT⟩=>?_)) fun q ⟨qA,qT⟩=>?_
 ·have hi':(i:Int)<14:=by omega
  refine Kbx (Lgs hT _ hl (by omega) (by simp) (by simp)) fun y15 ⟨m15,t15⟩=>?_
  have h15:y15.1.length≤1000:=by
   simp only[List.mem_cons,List.not_mem_nil,or_false] at m15
   rcases m15 with e | e | e | e<;>simp[e]
  refine Kbx (Lgs t15 _ hl (by omega) (by simp) (by simp)) fun y17 ⟨m17,t17⟩=>?_
  have h17:y17.1.length≤1000:=by
   simp only[List.mem_cons,List.not_mem_nil,or_false] at m17
   rcases m17 with e | e | e | e | e<;>simp[e]
  refine Kbx (Lgr t17 _ hl (by omega) (by simp) (by simp)) fun y19 ⟨_,t19⟩=>?_
  refine Kbx (P:=fun z:Kwe×Kwg=>AskS z.2∧At l 0 (b+1+10 * i+8) z.1) ?_ fun z ⟨z1,z2⟩=>?_
  ·refine Kca (fun _=>?_) (fun _=>Kbw ⟨⟨h15,h17,by simp,by simp⟩,t19.up (by omega) (by omega)⟩)
   refine Kbx (Lgs t19 _ hl (by omega) (by simp) (by simp)) fun y24 ⟨m24,t24⟩=>?_
   refine Kbx (Lgs t24 _ hl (by omega) (by simp) (by simp)) fun y26 ⟨m26,t26⟩=>?_
   refine Kbx (Lgr t26 _ hl (by omega) (by simp) (by simp)) fun y28 ⟨_,t28⟩=>Kbw ⟨⟨h15,h17,?_,?_⟩,t28.up (by omega) (by omega)⟩
   ·simp only[List.mem_cons,List.not_mem_nil,or_false] at m24
    rcases m24 with e | e<;>simp[e]
   ·simp only[List.mem_cons,List.not_mem_nil,or_false] at m26
    rcases m26 with e | e | e | e<;>simp[e]
  ·refine Kch (by have:=hA.1;simp;omega) ?_
   exact Kbx (Lgr z2 _ hl (by omega) (by simp) (by simp)) fun y33 ⟨_,t33⟩=>Kbw ⟨hA.app z1,t33.up (by omega) (by simp only[Int.natCast_add];omega)⟩
 ·have qA':AskN 14 q.2.1:=qA.up (by omega)
  have qT':At l 0 (b+150) q.1:=qT.up (by omega) (by omega)
  have hlen:=qA'.1
  refine Kbx (P:=fun z:Kwe×Bool=>(z.2=true→0<q.2.1.length)∧At l 0 (b+151) z.1) ?_ fun z ⟨z1,z2⟩=>?_
  ·refine Kca (fun hb=>?_) (fun _=>Kbw ⟨fun e=>by(cases e),qT'.up (by omega) (by omega)⟩)
   have hpos:=of_decide_eq_true hb
   exact Kbx (Lgq qT' 20 hl (by omega) (by omega) (by omega)) fun y38 t38=>Kbw ⟨fun _=>by omega,t38.up (by omega) (by omega)⟩
  ·refine Kbx (P:=fun w:Kwe×List Kwg=>AskD w.2∧At l 0 (b+500) w.1) ?_ fun w ⟨w1,w2⟩=>Kbw ⟨w1,w2⟩
   refine Kca (fun hz=>?_) (fun _=>Kbw ⟨⟨Nat.le_trans qA'.1 (by omega),qA'.2⟩,z2.up (by omega) (by omega)⟩)
   have hpos:=z1 hz
   refine Kbx (Lgp z2 (q.2.1.length:Int) hl (by omega) (by omega) (by omega)) fun y44 ⟨c0,c1,t44⟩=>?_
   refine Kbx (Lgw (p:=AskS) qA'.2 c0 c1) fun x46 x1=>?_
   refine Kbx (Lgp t44 3 hl (by omega) (by omega) (by omega)) fun y49 ⟨_,_,t49⟩=>?_
   refine Kca (fun _=>?_) (fun _=>Kca (fun _=>?_) (fun _=>?_))
   ·refine Kbx (Lgv t49 0 100 hl (by omega) (by omega) (by omega) (by omega)) fun y52 t52=>?_
    refine Kbx (Lgs t52 _ hl (by omega) (by simp) (by simp)) fun y54 ⟨m54,t54⟩=>?_
    have h54:y54.1.length≤1000:=by
     simp only[List.mem_cons,List.not_mem_nil,or_false] at m54
     rcases m54 with e | e<;>simp[e]
    refine Kbw ⟨?_,t54.up (by omega) (by omega)⟩
    have:=(qA'.put (a:=⟨y52.1,x46.Key,x46.By,x46.Kind,x46.Node,x46.Posture,x46.Long⟩) x1 y44.1.toNat).put (a:=⟨y52.1,y54.1,x46.By,x46.Kind,x46.Node,x46.Posture,x46.Long⟩) ⟨h54,x1.2.1,x1.2.2.1,x1.2.2.2⟩ y44.1.toNat
    exact⟨by have:=this.1;simp only at this ⊢;omega,this.2⟩
   ·refine Kbx (Lgv t49 1 4 hl (by omega) (by omega) (by omega) (by omega)) fun y59 t59=>Kbw ⟨?_,t59.up (by omega) (by omega)⟩
    have:=qA'.put (a:=⟨x46.At,x46.Key,x46.By,y59.1,x46.Node,x46.Posture,x46.Long⟩) x1 y44.1.toNat
    exact⟨by have:=this.1;simp only at this ⊢;omega,this.2⟩
   ·refine Kbx (Lgs t49 _ hl (by omega) (by simp) (by simp)) fun y62 ⟨m62,t62⟩=>?_
    have h62:y62.1.length≤1000:=by
     simp only[List.mem_cons,List.not_mem_nil,or_false] at m62
     rcases m62 with e | e | e<;>simp[e]
    refine Kbx (Lgv t62 0 10 hl (by omega) (by omega) (by omega) (by omega)) fun y64 t64=>Kbw ⟨?_,t64.up (by omega) (by omega)⟩
    have:=(qA'.put (a:=⟨x46.At,x46.Key,x46.By,x46.Kind,y62.1,x46.Posture,x46.Long⟩) ⟨x1.1,x1.2.1,h62,x1.2.2.2⟩ y44.1.toNat).put (a:=⟨x46.At,x46.Key,x46.By,x46.Kind,y62.1,x46.Posture,y64.1⟩) ⟨x1.1,x1.2.1,h62,x1.2.2.2⟩ y44.1.toNat
    exact⟨by have:=this.1;simp only at this ⊢;omega,this.2⟩
def FacN(n:Nat)(l:List Kwl):Prop:=l.length≤n∧∀ x∈l,x.Node.length≤1000∧x.Posture.length≤1000
theorem FacN.app{n:Nat}{l:List Kwl}(h:FacN n l){x:Kwl}(h1:x.Node.length≤1000)(h2:x.Posture.length≤1000):FacN (n+1) (l++[x]):=⟨by have:=h.1;simp;omega,fun y hy=>(List.mem_append.1 hy).elim (h.2 y) fun e=>by rw[List.mem_singleton.1 e];exact⟨h1,h2⟩⟩
theorem FacN.up{n m:Nat}{l:List Kwl}(h:FacN n l)(hm:n≤m):FacN m l:=⟨Nat.le_trans h.1 hm,h.2⟩
theorem Lgz{l:List Int}(hl:l.length≤9223372036854775807){b:Int}{s:Kwe}(h:At l 0 b s)(h0:0≤b)(h1:b<1000000000000000000) :
  Ok (Kzj s) fun r=>FacD r.1∧At l 0 (b+100) r.2:=by
 unfold Kzj
 refine Kbx (Kcc (fun i (q:Kwe×(List Kwl))=>FacN (3 * i) q.2∧At l 0 (b+3 * i) q.1) ⟨⟨Nat.le_refl _,fun x hx=>by cases hx⟩,h.up (by omega) (by omega)⟩ fun i x s2 hx ⟨hA,hT⟩=>?_) fun q ⟨qA,qT⟩=>?_
 ·have hi:i<3:=(gEs.1 hx).1
  have hxl:x.length≤1000:=by
   have:=mOg hx
   simp only[List.mem_cons,List.not_mem_nil,or_false] at this
   rcases this with e | e | e<;>simp[e]
  refine Kbx (Kcc (fun j (q:Kwe×(List Kwl))=>FacN (3 * i+j) q.2∧At l 0 (b+3 * i+j) q.1) ⟨hA,hT.up (by omega) (by omega)⟩ fun j y s13 hy ⟨gA,gT⟩=>?_) fun q ⟨qA,qT⟩=>Kbw ⟨qA.up (by simp only[List.length_cons,List.length_nil];omega),qT.up (by omega) (by simp only[List.length_cons,List.length_nil,Int.natCast_add];omega)⟩
  have hj:j<3:=(gEs.1 hy).1
  have hyl:y.length≤1000:=by
   have:=mOg hy
   simp only[List.mem_cons,List.not_mem_nil,or_false] at this
   rcases this with e | e | e<;>simp[e]
  refine Kbx (Lgq gT 3 hl (by omega) (by omega) (by omega)) fun y23 t23=>?_
  refine Kca (fun _=>?_) (fun _=>Kbw ⟨gA.up (by omega),t23.up (by omega) (by simp only[Int.natCast_add];omega)⟩)
  exact Kch (by have:=gA.1;simp;omega) (Kbw ⟨gA.app hxl hyl,t23.up (by omega) (by simp only[Int.natCast_add];omega)⟩)
 ·have qA':FacN 9 q.2:=qA
  have qT':At l 0 (b+9) q.1:=qT.up (by omega) (by simp)
  refine Kbx (Lgq qT' 20 hl (by omega) (by omega) (by omega)) fun y29 t29=>?_
  refine Kbx (P:=fun z:Kwe×List Kwl=>FacD z.2∧At l 0 (b+100) z.1) ?_ fun z ⟨z1,z2⟩=>Kbw ⟨z1,z2⟩
  refine Kca (fun _=>?_) (fun _=>Kbw ⟨qA'.up (by omega),t29.up (by omega) (by omega)⟩)
  refine Kbx (Lgs t29 _ hl (by omega) (by simp) (by simp)) fun y34 ⟨m34,t34⟩=>?_
  have h34:y34.1.length≤1000:=by
   simp only[List.mem_cons,List.not_mem_nil,or_false] at m34
   rcases m34 with e | e | e<;>simp[e]
  refine Kbx (Lgs t34 _ hl (by omega) (by simp) (by simp)) fun y36 ⟨m36,t36⟩=>?_
  have h36:y36.1.length≤1000:=by
   simp only[List.mem_cons,List.not_mem_nil,or_false] at m36
   rcases m36 with e | e<;>simp[e]
  exact Kch (by have:=qA'.1;simp;omega) (Kbw ⟨(qA'.app h34 h36).up (by omega),t36.up (by omega) (by omega)⟩)
end Go.Gk
