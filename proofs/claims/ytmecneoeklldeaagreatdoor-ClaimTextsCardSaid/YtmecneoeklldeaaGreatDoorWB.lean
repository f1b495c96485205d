import Derived.Test.YtmecneoeklldeaaGreatDoorQIns
import Derived.Test.YtmecneoeklldeaaGreatDoorWA
set_option linter.all false
set_option maxRecDepth 100000
namespace Go.Gk
def AtS(a:Kxc):Prop:=a.Words.length≤40000
def ClS(c:Kxd):Prop:=c.Node.length≤40000∧c.Name.length≤40000∧AtS c.Value
def attrE(k:Nat)(a:Kxc):Int:=(Kxx k a).getD 0
theorem Ktq(k:Nat)(hk:10<k)(a:Kxc)(h:AtS a):Kxx k a=some (attrE k a)∧Kyp k a=some (attrE k a):=by
 obtain⟨e,h1,h2⟩:=Kan k hk a (by have:a.Words.length≤40000:=h;omega)
 have:attrE k a=e:=by unfold attrE;rw[h1];rfl
 rw[this]
 exact⟨h1,h2⟩
def momB(n:Int):Bool:=decide (n≥0)&&decide (n<345686400)
theorem Ktr(n:Int):Kxt n=some (momB n)∧Kyl n=some (momB n):=by
 refine⟨rfl,?_⟩
 unfold Kyl
 rw[Kbi]
 simp only[bi_some]
 congr 1
 unfold momB
 rw[Bool.eq_iff_iff]
 simp only[decide_eq_true_eq,Bool.and_eq_true]
 omega
def chkE(k:Nat)(l:List Kxd)(i:Nat)(x:Kxd):Int:=
 if !momB x.At then 1 else if !keyB x.Node||!keyB x.Name then 5 else if attrE k x.Value≠0 then attrE k x.Value else if 0<i∧0≤cC (l.getD (i - 1) x) x then 7 else 0
theorem Kts{α:Type}{f:Nat→α→Unit→Option (LS Unit Int)}:∀ (l:List α) (i:Nat) (E:Nat→α→Int) (h:∀ j x,l[j]?=some x→f (i+j) x ()=some (if E (i+j) x=0 then .go () else .out (E (i+j) x))),
  ∃ r:Int,rangeM f i l ()=some (if r=0 then .go () else .out r)∧(r=0→∀ j x,l[j]?=some x→E (i+j) x=0)
 | [],i,E,h=>⟨0,rfl,fun _ j x hx=>by simp at hx⟩
 | x :: l,i,E,h=>by
  have h0:=h 0 x rfl
  simp only[Nat.add_zero] at h0
  by_cases he:E i x=0
  ·rw[if_pos he] at h0
   obtain⟨r,h1,h2⟩:=Kts l (i+1) E (fun j y hy=>by
    have:=h (j+1) y hy
    rw[show i+(j+1)=i+1+j by omega] at this
    exact this)
   refine⟨r,by simp only[rangeM,h0];exact h1,fun hr j y hy=>?_⟩
   cases j with
   | zero=>
    simp at hy
    subst hy
    exact he
   | succ j=>
    have:=h2 hr j y (by simpa using hy)
    rw[show i+(j+1)=i+1+j by omega]
    exact this
  ·rw[if_neg he] at h0
   exact⟨E i x,by simp only[rangeM,h0,if_neg he],fun hr=>absurd hr he⟩
theorem Ktt(k:Nat)(hk:50010<k)(l:List Kxd)(hl:l.length≤2000)(hs:∀ c∈l,ClS c) :
  ∃ e:Int,Kyc k l=some e∧Kyr k l=some e∧(e=0→(l.Pairwise fun x y=>cL x y=true)∧∀ j x,l[j]?=some x→chkE k l (0+j) x=0):=by
 have step:∀ (j:Nat) (x:Kxd),l[j]?=some x→(bif decide (((j:Int):Int)>0) then(bi (getZ l (wi ((j:Int) - 1))) fun x41=>bi (Kyb x41 x) fun y43=>some (decide ((y43:Int)≥0))) else(some false))=some (decide (0<j∧0≤cC (l.getD (j - 1) x) x)):=fun j x hx=>by
  have hj:=(gEs.1 hx).1
  by_cases h0:0<j
  ·rw[dT (show(j:Int)>0 by omega),cond_true,Kss (by omega) (by omega),show(j:Int) - 1=((j - 1:Nat):Int) by omega]
   rw[Kth (gGe (show j - 1<l.length by omega)),bi_some,cmpC,bi_some]
   congr 1
   refine decide_eq_decide.2 ?_
   rw[List.getD_eq_getElem?_getD,gGe (show j - 1<l.length by omega)]
   simp[h0]
  ·rw[dF (show ¬ (j:Int)>0 by omega),cond_false,dF (fun h=>h0 h.1)]
 have keys:∀ x∈l,Kxu k x.Node=some (keyB x.Node)∧Kxu k x.Name=some (keyB x.Name)∧Kyn x.Node=some (keyB x.Node)∧Kyn x.Name=some (keyB x.Name):=fun x hx=>by
  obtain⟨h1,h2,_⟩:=hs x hx
  exact⟨keyP k _ (by omega) (by omega),keyP k _ (by omega) (by omega),keyR _ (by omega),keyR _ (by omega)⟩
 obtain⟨r,h1,h2⟩:=Kts (f:=fun i3 x5 s4=>bi (Kxt x5.At) fun y14=>bif !y14 then(bi (some 1) fun v=>some (.out v)) else(bi (Kxu k x5.Node) fun y20=>bi (bif !y20 then(some true) else(bi (Kxu k x5.Name) fun y26=>some (!y26))) fun q22=>bif q22 then(bi (some 5) fun v=>some (.out v)) else(bi (Kxx k x5.Value) fun y32=>bif (y32:Int) != 0 then(bi (some y32) fun v=>some (.out v)) else(bi (bif decide (((i3:Int):Int)>0) then(bi (getZ l (wi ((i3:Int) - 1))) fun x41=>bi (Kyb x41 x5) fun y43=>some (decide ((y43:Int)≥0))) else(some false)) fun q38=>bif q38 then(bi (some 7) fun v=>some (.out v)) else(some (.go ())))))) l 0 (chkE k l) (fun j x hx=>by
  have hm:=mOg hx
  obtain⟨k1,k2,_,_⟩:=keys x hm
  simp only[Nat.zero_add]
  rw[(Ktr x.At).1,k1,k2,(Ktq k (by omega) x.Value (hs x hm).2.2).1,step j x hx]
  unfold chkE
  simp only[bi_some]
  cases momB x.At with
  | false=>rfl
  | true=>
   cases keyB x.Node with
   | false=>rfl
   | true=>
    cases keyB x.Name with
    | false=>rfl
    | true=>
     simp only[Bool.not_true,cond_false,Bool.or_self,bi_some,Bool.false_eq_true,if_false]
     by_cases ha:attrE k x.Value=0
     ·rw[ha]
      simp only[bne_self_eq_false,cond_false,ne_eq,not_true_eq_false,if_false]
      by_cases h7:0<j∧0≤cC (l.getD (j - 1) x) x
      ·rw[dT h7,if_pos h7];rfl
      ·rw[dF h7,if_neg h7];rfl
     ·have hb:(attrE k x.Value != 0)=true:=by simpa using ha
      rw[hb,if_pos ha]
      simp[ha])
 have h1':rangeM (σ:=Unit) (ρ:=Int) (fun i3 x5 s4=>bi (Kyl x5.At) fun y14=>bif !y14 then(bi (some 1) fun v=>some (.out v)) else(bi (Kyn x5.Node) fun y20=>bi (bif !y20 then(some true) else(bi (Kyn x5.Name) fun y26=>some (!y26))) fun q22=>bif q22 then(bi (some 5) fun v=>some (.out v)) else(bi (Kyp k x5.Value) fun y32=>bif (y32:Int) != 0 then(bi (some y32) fun v=>some (.out v)) else(bi (bif decide (((i3:Int):Int)>0) then(bi (getZ l (wi ((i3:Int) - 1))) fun x41=>bi (Kyq x41 x5) fun y43=>some (decide ((y43:Int)≥0))) else(some false)) fun q38=>bif q38 then(bi (some 7) fun v=>some (.out v)) else(some (.go ())))))) 0 l ()=some (if r=0 then .go () else .out r):=by
  rw[←h1]
  have congr_M:∀ {f g:Nat→Kxd→Unit→Option (LS Unit Int)} (l':List Kxd) (i:Nat),(∀ x∈l',∀ j,f j x ()=g j x ())→rangeM f i l' ()=rangeM g i l' ():=fun {f g} l'=>by
   induction l' with
   | nil=>intro i _;rfl
   | cons x l' ih=>
    intro i h
    simp only[rangeM,h x List.mem_cons_self i]
    cases g i x () with
    | none=>rfl
    | some y=>cases y with
     | go s=>exact ih (i+1) fun y hy=>h y (mCo _ hy)
     | out v=>rfl
  refine congr_M l 0 fun x hm j=>?_
  obtain⟨k1,k2,k3,k4⟩:=keys x hm
  obtain⟨a1,a2⟩:=Ktq k (by omega) x.Value (hs x hm).2.2
  rw[(Ktr x.At).1,(Ktr x.At).2,k1,k2,k3,k4,a1,a2]
  rfl
 refine⟨r,?_,?_,fun hr=>?_⟩
 ·unfold Kyc
  rw[dF (show ¬ (l.length:Int)>2000 by omega),cond_false,h1]
  by_cases hr:r=0
  ·rw[if_pos hr,hr];rfl
  ·rw[if_neg hr];rfl
 ·unfold Kyr
  rw[dF (show ¬ (l.length:Int)>2000 by omega),cond_false,h1']
  by_cases hr:r=0
  ·rw[if_pos hr,hr];rfl
  ·rw[if_neg hr];rfl
 ·have hz:=h2 hr
  refine⟨?_,hz⟩
  have adj:∀ i (hi:i+1<l.length),cL l[i] l[i+1]=true:=fun i hi=>by
   have:=hz (i+1) l[i+1] (gGe hi)
   rw[Nat.zero_add] at this
   unfold chkE at this
   split at this
   ·cases this
   ·split at this
    ·cases this
    ·split at this
     ·rename_i h;exact absurd this h
     ·split at this
      ·cases this
      ·rename_i h
       rw[List.getD_eq_getElem?_getD,show i+1 - 1=i by omega,gGe (show i<l.length by omega)] at h
       rw[←Kqf]
       refine dT ?_
       have h':¬ (0:Int)≤cC l[i] l[i+1]:=fun h''=>h ⟨by omega,h''⟩
       omega
  exact List.pairwise_iff_getElem.2 fun i j hi hj hij=>by
   obtain⟨d,rfl⟩:∃ d,j=i+1+d:=⟨j - (i+1),by omega⟩
   clear hij
   induction d with
   | zero=>exact adj i hj
   | succ d ih=>
    have h1:=ih (by omega)
    have h2:=adj (i+1+d) hj
    cases h3:cL l[i] l[i+1+(d+1)] with
    | true=>rfl
    | false=>
     have h4:=Kqg.sy _ _ h2
     have:=Kqg.tr _ _ _ h3 h4
     rw[h1] at this
     cases this
theorem Ktu{k:Nat}{l:List Kxd}{i:Nat}{x:Kxd}(h:chkE k l i x=0):0≤x.At∧x.At<345686400:=by
 unfold chkE at h
 cases hm:momB x.At with
 | false=>rw[hm] at h;simp at h
 | true=>
  unfold momB at hm
  simpa using hm
end Go.Gk
namespace Go.Gk
theorem Kti{l:List Int}{b:Int}{s:Kxb}(h:At l 0 b s)(n:Int)(hl:l.length≤9223372036854775807)(h1:b<4000000000000000000)(hn:1≤n)(hn2:n≤4611686018427387904) :
  Ok (Kxl s n) fun r=>0≤r.1∧r.1<n∧At l 0 (b+1) r.2:=by
 obtain⟨e1,e2,e3⟩:=h
 obtain⟨c,c0,c1,hc⟩:=Ksu l s.v_at n hl (by omega) (by omega) hn hn2
 rw[←e1] at hc
 exact⟨_,hc,c0,c1,e1,by simp only;omega,by simp only;omega⟩
theorem Ktj{l:List Int}{b:Int}{s:Kxb}(h:At l 0 b s)(n:Int)(hl:l.length≤9223372036854775807)(h1:b<4000000000000000000)(hn:1≤n)(hn2:n≤4611686018427387904) :
  Ok (Kxn s n) fun r=>At l 0 (b+1) r.2:=Kcy (Kdf h n hl (by omega) (by omega) hn hn2) fun r h=>h.up (by omega) (by omega)
theorem Ktk{l:List Int}{b:Int}{s:Kxb}(h:At l 0 b s)(xs:List Int)(hl:l.length≤9223372036854775807)(h1:b<4000000000000000000)(hn:1≤xs.length)(hn2:xs.length≤1000) :
  Ok (Kxp s xs) fun r=>r.1∈xs∧At l 0 (b+1) r.2:=Kcy (Kdg h xs hl (by omega) (by omega) hn hn2) fun r h=>⟨h.1,h.2.up (by omega) (by omega)⟩
theorem Ktl{l:List Int}{b:Int}{s:Kxb}(h:At l 0 b s)(xs:List Str)(hl:l.length≤9223372036854775807)(h1:b<4000000000000000000)(hn:1≤xs.length)(hn2:xs.length≤1000) :
  Ok (Kxo s xs) fun r=>r.1∈xs∧At l 0 (b+1) r.2:=Kcy (Kdh h xs hl (by omega) (by omega) hn hn2) fun r h=>⟨h.1,h.2.up (by omega) (by omega)⟩
theorem Ktm:∃ w,Kpj [119] 101=some w∧w.length≤40000:=⟨_,rfl,by decide⟩
theorem Ktn{l:List Int}{b:Int}{s:Kxb}(h:At l 0 b s)(hl:l.length≤9223372036854775807)(h1:b<3000000000000000000) :
  Ok (Kxr s) fun r=>AtS r.1∧At l 0 (b+20) r.2:=by
 unfold Kxr
 refine Kcw (Ktk h _ hl (by omega) (by simp) (by simp)) fun y1 ⟨_,t1⟩=>?_
 refine Kcw (P:=fun q=>AtS q.2∧At l 0 (b+3) q.1) ?_ fun q3 ⟨a3,t3⟩=>?_
 ·refine Kcz (fun _=>?_) (fun _=>Kcz (fun _=>?_) (fun _=>Kcz (fun _=>?_) (fun _=>?_)))
  ·refine Kcw (Ktk t1 _ hl (by omega) (by simp) (by simp)) fun y6 ⟨_,t6⟩=>Kcv ⟨by simp[AtS],t6.up (by omega) (by omega)⟩
  ·refine Kcw (Ktl t1 _ hl (by omega) (by simp) (by simp)) fun y10 ⟨m10,t10⟩=>Kcv ⟨?_,t10.up (by omega) (by omega)⟩
   simp only[List.mem_cons,List.not_mem_nil,or_false] at m10
   rcases m10 with e | e | e | e | e<;>simp[AtS,e]
  ·refine Kcw (Kti t1 2 hl (by omega) (by omega) (by omega)) fun y14 ⟨_,_,t14⟩=>Kcv ⟨by simp[AtS],t14.up (by omega) (by omega)⟩
  ·refine Kcw (Ktk t1 _ hl (by omega) (by simp) (by simp)) fun y17 ⟨_,t17⟩=>?_
   refine Kcw (Ktk t17 _ hl (by omega) (by simp) (by simp)) fun y19 ⟨_,t19⟩=>Kcv ⟨by simp[AtS],t19.up (by omega) (by omega)⟩
 ·refine Kcw (Ktj t3 60 hl (by omega) (by omega) (by omega)) fun y21 t21=>?_
  refine Kcw (P:=fun q=>AtS q.2∧At l 0 (b+20) q.1) ?_ fun q23 ⟨a,t⟩=>Kcv ⟨a,t⟩
  refine Kcz (fun _=>?_) (fun _=>Kcv ⟨a3,t21.up (by omega) (by omega)⟩)
  refine Kcw (Kdj t21 0 1 hl (by omega) (by omega) (by omega) (by omega) (by omega)) fun y26 t26=>?_
  obtain⟨w,hw,hwl⟩:=Ktm
  refine Kcx hw ?_
  refine Kcw (Ktl t26 _ hl (by omega) (by simp) (by simp)) fun y30 ⟨m30,t30⟩=>Kcv ⟨?_,t30.up (by omega) (by omega)⟩
  simp only[List.mem_cons,List.not_mem_nil,or_false] at m30
  rcases m30 with e | e | e | e<;>simp[AtS,e,hwl]
def Cls(n:Nat)(L:List Kxd):Prop:=L.length≤n∧∀ c∈L,ClS c
theorem Kto{n:Nat}{L:List Kxd}(h:Cls n L){c:Kxd}(hc:ClS c):Cls (n+1) (L++[c]):=⟨by rw[List.length_append,List.length_singleton];have:=h.1;omega,fun x hx=>(List.mem_append.1 hx).elim (h.2 x) fun hx=>by rw[List.mem_singleton.1 hx];exact hc⟩
theorem Cls.up{n m:Nat}{L:List Kxd}(h:Cls n L)(hm:n≤m):Cls m L:=⟨Nat.le_trans h.1 hm,h.2⟩
theorem Ktp{l:List Int}{b:Int}{s:Kxb}(h:At l 0 b s)(many:Nat)(hm:many≤4)(hl:l.length≤9223372036854775807)(h1:b<2000000000000000000) :
  Ok (Kxs s (many:Int)) fun r=>Cls (6 * many+1) r.1∧At l 0 (b+5000) r.2:=by
 unfold Kxs
 refine Kcw (Kti h 5 hl (by omega) (by omega) (by omega)) fun y1 ⟨_,_,t1⟩=>?_
 refine Kcw (P:=fun q:Kxb×(List Kxd)×Int=>Cls (6 * many) q.2.1∧At l 0 (b+4100) q.1) (Kda (dT (by omega)) (Kcy (Kdc (fun j q=>Cls (6 * j) q.2.1∧At l 0 (b+1+1000 * (j:Int)) q.1) ⟨⟨Nat.zero_le _,fun c hc=>by cases hc⟩,t1.up (by omega) (by omega)⟩ ?_) fun q hq=>⟨hq.1.up (by omega),hq.2.up (by omega) (by omega)⟩)) fun q6 ⟨c6,t6⟩=>?_
 ·intro j s4 hj ⟨c4,t4⟩
  have hj4:j<4:=by omega
  refine Kcw (P:=fun q:Kxb×(List Kxd)=>Cls (6 * j+6) q.2∧At l 0 (b+1+1000 * (j:Int)+800) q.1) (Kcy (Kdb (fun n q=>Cls (6 * j+3 * n) q.2∧At l 0 (b+1+1000 * (j:Int)+350 * (n:Int)) q.1) ⟨c4,t4.up (by omega) (by omega)⟩ ?_) fun q hq=>⟨hq.1.up (by simp),hq.2.up (by omega) (by simp)⟩) fun q18 ⟨c18,t18⟩=>?_
  ·intro n x17 s16 hx ⟨c16,t16⟩
   have hn:n<2:=by have:=(gEs.1 hx).1;simpa using this
   have hx17:x17.length≤40000:=by
    have:=mOg hx
    simp only[List.mem_cons,List.not_mem_nil,or_false] at this
    rcases this with e | e<;>simp[e]
   refine Kcw (P:=fun q:Kxb×(List Kxd)=>Cls (6 * j+3 * n+3) q.2∧At l 0 (b+1+1000 * (j:Int)+350 * (n:Int)+300) q.1) (Kcy (Kdb (fun u q=>Cls (6 * j+3 * n+u) q.2∧At l 0 (b+1+1000 * (j:Int)+350 * (n:Int)+100 * (u:Int)) q.1) ⟨c16,t16.up (by omega) (by omega)⟩ ?_) fun q hq=>⟨hq.1.up (by simp),hq.2.up (by omega) (by simp)⟩) fun q29 ⟨c29,t29⟩=>Kcv ⟨c29.up (by omega),t29.up (by omega) (by omega)⟩
   intro u x28 s27 hx2 ⟨c27,t27⟩
   have hu:u<3:=by have:=(gEs.1 hx2).1;simpa using this
   have hx28:x28.length≤40000:=by
    have:=mOg hx2
    simp only[List.mem_cons,List.not_mem_nil,or_false] at this
    rcases this with e | e | e<;>simp[e]
   refine Kcw (Ktj t27 4 hl (by omega) (by omega) (by omega)) fun y37 t37=>?_
   refine Kcz (fun _=>Kcv ⟨c27.up (by omega),t37.up (by omega) (by omega)⟩) (fun _=>?_)
   refine Kcw (P:=fun q:Kxb×Kxd=>ClS q.2∧At l 0 (b+1+1000 * (j:Int)+350 * (n:Int)+100 * (u:Int)+2) q.1) ?_ fun q41 ⟨c41,t41⟩=>?_
   ·refine Kcz (fun _=>?_) (fun _=>Kcz (fun _=>?_) (fun _=>?_))
    ·refine Kcw (Kti t37 2 hl (by omega) (by omega) (by omega)) fun y44 ⟨_,_,t44⟩=>Kcv ⟨⟨hx17,hx28,by simp[AtS]⟩,t44.up (by omega) (by omega)⟩
    ·refine Kcw (Ktl t37 _ hl (by omega) (by simp) (by simp)) fun y48 ⟨m48,t48⟩=>Kcv ⟨⟨hx17,hx28,?_⟩,t48.up (by omega) (by omega)⟩
     simp only[List.mem_cons,List.not_mem_nil,or_false] at m48
     rcases m48 with e | e | e<;>simp[AtS,e]
    ·refine Kcw (Ktk t37 _ hl (by omega) (by simp) (by simp)) fun y51 ⟨_,t51⟩=>Kcv ⟨⟨hx17,hx28,by simp[AtS]⟩,t51.up (by omega) (by omega)⟩
   ·refine Kcw (Ktj t41 15 hl (by omega) (by omega) (by omega)) fun y53 t53=>?_
    refine Kcw (P:=fun q:Kxb×Kxd=>ClS q.2∧At l 0 (b+1+1000 * (j:Int)+350 * (n:Int)+100 * (u:Int)+30) q.1) ?_ fun q55 ⟨c55,t55⟩=>?_
    ·refine Kcz (fun _=>?_) (fun _=>Kcv ⟨c41,t53.up (by omega) (by omega)⟩)
     refine Kcw (Ktn t53 hl (by omega)) fun y58 ⟨a58,t58⟩=>Kcv ⟨⟨c41.1,c41.2.1,a58⟩,t58.up (by omega) (by omega)⟩
    ·have hc27:=c27.1
     refine Kdd (by rw[List.length_singleton];omega) (Kcv ⟨Kto c27 c55,t55.up (by omega) (by push_cast;omega)⟩)
  ·refine Kcw (Ktk t18 _ hl (by omega) (by simp) (by simp)) fun y63 ⟨_,t63⟩=>Kcv ⟨c18.up (by omega),t63.up (by omega) (by push_cast;omega)⟩
 ·refine Kcw (Ktj t6 20 hl (by omega) (by omega) (by omega)) fun y65 t65=>?_
  refine Kcw (P:=fun q:Kxb×(List Kxd)=>Cls (6 * many+1) q.2∧At l 0 (b+5000) q.1) ?_ fun q67 ⟨c67,t67⟩=>Kcv ⟨c67,t67⟩
  refine Kcz (fun _=>?_) (fun _=>Kcv ⟨c6.up (by omega),t65.up (by omega) (by omega)⟩)
  refine Kcw (Kdj t65 0 1000 hl (by omega) (by omega) (by omega) (by omega) (by omega)) fun y70 t70=>?_
  refine Kcw (Ktl t70 _ hl (by omega) (by simp) (by simp)) fun y72 ⟨m72,t72⟩=>?_
  refine Kcw (Ktl t72 _ hl (by omega) (by simp) (by simp)) fun y74 ⟨m74,t74⟩=>?_
  refine Kcw (Ktn t74 hl (by omega)) fun y76 ⟨a76,t76⟩=>?_
  have hc6:=c6.1
  refine Kdd (by rw[List.length_singleton];omega) (Kcv ⟨Kto c6 ⟨?_,?_,a76⟩,t76.up (by omega) (by omega)⟩)
  ·simp only[List.mem_cons,List.not_mem_nil,or_false] at m72
   rcases m72 with e | e<;>simp[e]
  ·simp only[List.mem_cons,List.not_mem_nil,or_false] at m74
   rcases m74 with e | e<;>simp[e]
end Go.Gk
namespace Go.Gk
def linL(L:List Str):List Str×Bool:=match L.getLast? with
 | some []=>(L.dropLast,true)
 | _=>(L,false)
theorem Kuw(x:Str){L:List Str}(h:L≠[]):linL (x :: L)=(x :: (linL L).1,(linL L).2):=by
 unfold linL
 rw[List.getLast?_cons_of_ne_nil h]
 have h2:(x :: L).dropLast=x :: L.dropLast:=List.dropLast_cons_of_ne_nil h
 rw[h2]
 split<;>rfl
def linT(t:Str):List Str×Bool:=linL (Lib.split t [10])
theorem Kux:linT []=([],true):=by
 unfold linT
 rw[Kci (s:=[]) (fun b hb=>by cases hb)]
 rfl
theorem Kuy{t:Str}(hn:t≠[])(h:∀ b∈t,b≠10):linT t=([t],false):=by
 unfold linT
 rw[Kci h]
 cases t with
 | nil=>exact absurd rfl hn
 | cons c t=>rfl
theorem Kuz{x:Str}(t:Str)(h:∀ b∈x,b≠10):linT (x++10 :: t)=(x :: (linT t).1,(linT t).2):=by
 unfold linT
 rw[Kcj t h]
 exact Kuw x (Kcl 10 t)
theorem Kva(t:Str)(h:t.length≤1000000):Kyw t=some (linT t):=by
 unfold Kyw linT
 rw[Kct (Kco 10 h)]
 have hne:=Kcl 10 t
 have hlen:=(Kcm 10 t.length t (Nat.le_refl _)).2.2
 generalize Lib.split t [10]=L at hne hlen ⊢
 have h1:1≤L.length:=List.length_pos_iff.2 hne
 rw[show wi ((L.length:Int) - 1)=((L.length - 1:Nat):Int) from by rw[Kss (by omega) (by omega)];omega]
 have hg:L[L.length - 1]?=some (L.getLast hne):=by rw[←List.getLast?_eq_getElem?,List.getLast?_eq_some_getLast hne]
 rw[Kct (Kth hg)]
 unfold linL
 rw[List.getLast?_eq_some_getLast hne]
 generalize L.getLast hne=z
 cases z with
 | nil=>
  show(bi (subZ L 0 ((L.length - 1:Nat):Int)) fun z6=>some (z6,true))=_
  have:=Ktg (l:=L) (i:=0) (j:=L.length - 1) (by omega) (by omega)
  rw[show(0:Int)=((0:Nat):Int) from rfl,Kct this,List.drop_zero,List.dropLast_eq_take]
 | cons c z=>rfl
theorem Kvb{c:UInt8}{s:Str}(h:∀ b∈s,b≠c):cut1 s c=(s,[],false):=by
 unfold cut1
 rw[Kcg h]
 rfl
theorem Kvc{c:UInt8}{x:Str}(t:Str)(h:∀ b∈x,b≠c):cut1 (x++c :: t) c=(x,t,true):=by
 unfold cut1
 rw[Kch t h,if_pos (by omega)]
 simp
theorem Kvd(c:UInt8){s:Str}(h:s.length≤1000000):Kpk s [c]=some (cut1 s c):=by
 unfold Kpk
 show gd (Nat.ble s.length 1099511627776) (some (cut1 s c))=_
 rw[Nat.ble_eq_true_of_le (by omega)]
 rfl
end Go.Gk
namespace Go.Gk
theorem Kve(s:Str)(k:Nat)(hs:s.length≤50000)(hk:s.length+300<k)(t0:Kxf)(f0:Int) :
  ∃ p r n,Kzk k s (((s.takeWhile wsB).length:Nat):Int)=some p∧Kzt k ⟨s,0,t0,f0⟩=some ⟨s,(((s.takeWhile wsB).length:Nat):Int)+n,r,f0⟩∧0≤n∧TokR s (s.takeWhile wsB).length p r n:=by
 have hT:=Kat (p:=wsB) s
 obtain⟨p',r',n,q14,t1,t2,t3,t4,t5,t6⟩:=Kwn s (s.takeWhile wsB).length k hs hk hT
 refine⟨p',r',n,t1,?_,t4,t6⟩
 rw[Kwg]
 simp only
 rw[show subZ s 0 (s.length:Int)=some s from by have:=Kbe (s:=s) (a:=0) (Nat.zero_le _);rw[List.drop_zero] at this;exact this,bi_some,Kaw s [32,10] wsB hs (by decide) (fun c=>(cls c).1),bi_some]
 have e1:wi ((0:Int)+((s.takeWhile wsB).length:Int))=(((s.takeWhile wsB).length:Nat):Int):=by
  rw[Kss (by omega) (by omega)];omega
 rw[e1,Kbe hT,bi_some]
 cases hR:rangeM (σ:=Unit) (ρ:=Str×Int) (fun i7 x9 s8=>bi (Kpd (s.drop (s.takeWhile wsB).length) x9) fun y20=>bif y20 then(some (.out (x9,(x9.length:Int)))) else(some (.go ()))) 0 SG () with
 | none=>rw[hR] at t2;cases t2
 | some R=>
  rw[hR,bi_some] at t2
  rw[bi_some,t2,bi_some,t3,bi_some]
  rw[List.length_drop] at t5
  rw[Kss (by omega) (by omega)]
theorem Kvf{s:Str}(h:numB s 9=true):s.takeWhile wsB=[]:=by
 unfold numB at h
 simp only[Bool.and_eq_true] at h
 obtain⟨h1,h2,h3,h4⟩:=h
 have hD:∀ c:UInt8,isD c=true→wsB c=false:=fun c hc=>by
  obtain⟨d,hd,_,rfl,_⟩:=Kbm hc
  have:∀ d:Fin 10,wsB (UInt8.ofNat (48+d.val))=false:=by decide
  exact this ⟨d,hd⟩
 rcases Lel s with⟨e,_⟩ | e
 ·rw[e] at h1 h3
  cases s with
  | nil=>simp at h1
  | cons c r=>
   rw[List.takeWhile_cons,hD c (by simpa using (lAe.1 h3 c mCs))]
   rfl
 rw[e,List.takeWhile_cons,show wsB 45=false from by decide]
 rfl
theorem Kvg(k:Nat)(hk:10<k){z:Str}{m:Nat}{v:Kxc}(h:ValT z m v){t:Str}(ht:Kyg k v=some t):t.takeWhile wsB=[]:=by
 cases h with
 | num h=>
  obtain⟨h1,h2,h3⟩:=Kby (m:=9) (by decide) h
  obtain⟨p,r⟩:=Kwe k (n:=numV (z.take m)) [] (0,0,0,0) (by simp at h2;omega) (by simp at h3;omega)
  rw[p] at ht
  obtain rfl:=oSi ht
  rw[h1]
  exact Kvf h
 | words w hl h=>
  rw[(Kvz k 0 w (0,0,0,0) (by omega)).1] at ht
  obtain rfl:=oSi ht
  rfl
 | tt h=>
  obtain rfl:=oSi ht
  rfl
 | ff h=>
  obtain rfl:=oSi ht
  rfl
 | ver h hm'=>
  unfold Kyg Kyf at ht
  rw[show((4:Int)==2)=false from rfl,show((4:Int)==1)=false from rfl,show((4:Int)==3)=false from rfl] at ht
  simp only[cond_false] at ht
  obtain⟨q,hq,ht⟩:=Kgg ht
  obtain⟨j,hj,ht⟩:=Kgg ht
  obtain⟨y,hy,ht⟩:=Kgg ht
  obtain rfl:=oSi ht
  unfold catZ at hy
  obtain⟨_,hy⟩:=Kgh hy
  obtain rfl:=oSi hy
  rfl
theorem Kvh:∀ g∈SG,(g==kVal)=false∧(g==[118])=false∧(g==[102])=false:=by decide
theorem Kvi(s:Str)(k:Nat)(hs:s.length≤40000)(hk:50010<k) :
  ∃ v b v',Kzl k s=some (v,b)∧Kzu k s=some (v',b)∧(b=true→v'=v∧AtS v):=by
 obtain⟨p,r,n,hp,hr,hn,hT⟩:=Kve s k (by omega) (by omega) (⟨[],0,[],(⟨0,0,[],(0,0,0,0)⟩:Kxc)⟩:Kxf) (-1)
 have hR:∀ b:Bool,(bif (r.kind:Str)==[118] then(bi (Kys k r.value) fun y6=>some ((y6:Str)==s)) else(bif (r.kind:Str)==[102] then(bi (Kys k r.value) fun y10=>some ((y10:Str)==s)) else(some false)))=some b→Kzu k s=some (r.value,b):=fun b hb=>by
  unfold Kzu
  rw[hr,bi_some]
  simp only
  rw[hb]
  rfl
 have hP:∀ (q:Kxe) (b:Bool),s≠[]→Kzk k s 0=some q→(bif (q.kind:Str)==kVal then(bif (q.v_end:Int)==(s.length:Int) then(bi (Kyg k q.value) fun y9=>some ((y9:Str)==s)) else(some false)) else(some false))=some b→Kzl k s=some (q.value,b):=fun q b h0 hq hb=>by
  unfold Kzl
  rw[show((s:Str)==[])=false by simpa using h0,cond_false,hq,bi_some]
  show bi (bif (q.kind:Str)==kVal then _ else _) _=_
  rw[hb]
  rfl
 by_cases h0:s=[]
 ·subst h0
  obtain⟨_,_,hT⟩:=hT
  refine⟨⟨0,0,[],(0,0,0,0)⟩,false,r.value,rfl,hR false ?_,fun h=>by cases h⟩
  rcases hT with⟨_,h1,_⟩ | ⟨_,h1,_⟩ | ⟨m,m0,m1,_⟩
  ·rw[h1];rfl
  ·rw[h1];rfl
  ·simp at m1;omega
 by_cases ha:s.takeWhile wsB=[]
 ·rw[ha] at hp hT
  simp only[List.length_nil] at hp hT
  obtain⟨_,_,hT⟩:=hT
  rw[show(((0:Nat):Int))=0 from rfl] at hp
  have hl:0<s.length:=List.length_pos_iff.2 h0
  rcases hT with⟨_,_,h1⟩ | ⟨h1,h2,_⟩ | ⟨m,m0,m1,m2,m3,hT⟩
  ·omega
  ·exact⟨_,false,r.value,hP p false h0 hp (by rw[h1];rfl),hR false (by rw[h2];rfl),fun h=>by cases h⟩
  ·rcases hT with⟨g1,g2⟩ | ⟨g1,g2,_⟩ | ⟨g1,g2,g3,g4⟩
   ·obtain⟨e1,e2,e3⟩:=Kvh _ g1
    exact⟨_,false,r.value,hP p false h0 hp (by rw[e1];rfl),hR false (by rw[g2,e2,e3];rfl),fun h=>by cases h⟩
   ·exact⟨_,false,r.value,hP p false h0 hp (by rw[g1];rfl),hR false (by rw[g2];rfl),fun h=>by cases h⟩
   ·rw[List.drop_zero] at g4
    rw[Nat.zero_add] at m1 m3
    obtain⟨t,t1,t2,t3⟩:=Kws k (by omega) (by omega) m1 g4
    refine⟨p.value,(t:Str)==s,r.value,hP p _ h0 hp ?_,hR _ ?_,fun h=>⟨g3,?_⟩⟩
    ·rw[g1,show(kVal==kVal)=true from by decide,cond_true,m3,t1,bi_some]
     cases ht:((t:Str)==s) with
     | true=>
      have:=t3 (eq_of_beq ht)
      rw[this,beq_self_eq_true];rfl
     | false=>cases (((m:Nat):Int)==(s.length:Int))<;>rfl
    ·rcases g2 with g2 | g2
     ·rw[g2,g3,t2];rfl
     ·rw[g2,g3,t2];rfl
    ·generalize p.value=v at g4 t1
     cases g4 with
     | words w hl2 hw=>
      show w.length≤40000
      have:=congrArg List.length hw
      rw[List.length_take] at this
      have hq:=(Kvx w).1
      simp at this
      omega
     | num _=>exact Nat.zero_le _
     | tt _=>exact Nat.zero_le _
     | ff _=>exact Nat.zero_le _
     | ver _ _=>exact Nat.zero_le _
 ·
  obtain⟨q,rq,nq,q14,hq,_,_,_,_,hQ⟩:=Kwn s 0 k (by omega) (by omega) (Nat.zero_le _)
  have noT:∀ t:Str,t.takeWhile wsB=[]→((t:Str)==s)=false:=fun t ht=>by
   rw[beq_eq_false_iff_ne]
   intro e
   rw[e] at ht
   exact ha ht
  refine⟨q.value,false,r.value,hP q false h0 hq ?_,hR false ?_,fun h=>by cases h⟩
  ·obtain⟨_,_,hQ⟩:=hQ
   have hl:0<s.length:=List.length_pos_iff.2 h0
   rcases hQ with⟨_,_,h1⟩ | ⟨h1,_,_⟩ | ⟨m,m0,m1,m2,m3,hQ⟩
   ·omega
   ·rw[h1];rfl
   ·rcases hQ with⟨g1,_⟩ | ⟨g1,_,_⟩ | ⟨g1,_,_,g4⟩
    ·rw[(Kvh _ g1).1];rfl
    ·rw[g1];rfl
    ·rw[List.drop_zero] at g4
     rw[Nat.zero_add] at m1 m3
     obtain⟨t,t1,_,_⟩:=Kws k (by omega) (by omega) m1 g4
     rw[g1,show(kVal==kVal)=true from by decide,cond_true,t1,bi_some,noT t (Kvg k (by omega) g4 t1)]
     cases ((q.v_end:Int)==(s.length:Int))<;>rfl
  ·obtain⟨_,_,hT⟩:=hT
   rcases hT with⟨_,h1,_⟩ | ⟨_,h1,_⟩ | ⟨m,m0,m1,m2,m3,hT⟩
   ·rw[h1];rfl
   ·rw[h1];rfl
   ·rcases hT with⟨g1,g2⟩ | ⟨g1,g2,_⟩ | ⟨g1,g2,g3,g4⟩
    ·obtain⟨_,e2,e3⟩:=Kvh _ g1
     rw[g2,e2,e3];rfl
    ·rw[g2];rfl
    ·obtain⟨t,t1,t2,_⟩:=Kws k (by omega) (by rw[List.length_drop];omega) (by rw[List.length_drop];omega) g4
     rw[g3,t2,bi_some,noT t (Kvg k (by omega) g4 t1)]
     cases ((r.kind:Str)==[118])<;>cases ((r.kind:Str)==[102])<;>rfl
theorem Kvj(s:Str)(h:s.length≤1000000):Kpx s [32] 4=some (Lib.splitN s [32] 4):=by
 show gd (Nat.blt s.length 4294967281&&(Nat.ble 1 4&&Nat.ble 4 9223372036854775807)) (some (Lib.splitN s [32] 4))=_
 rw[show Nat.blt s.length 4294967281=true from by rw[Nat.blt_eq];omega]
 rfl
theorem Kvk(sep:Str):∀ (k:Nat) (s:Str),(Lib.splitK sep 0 k s).length≤k+1∧∀ x∈Lib.splitK sep 0 k s,x.length≤s.length
 | 0,s=>⟨by simp[Lib.splitK],fun x hx=>by rw[List.mem_singleton.1 (show x∈[s] from hx)];exact Nat.le_refl _⟩
 | k+1,s=>by
  unfold Lib.splitK
  split
  ·exact⟨by simp,fun x hx=>by rw[List.mem_singleton.1 hx];exact Nat.le_refl _⟩
  obtain⟨h1,h2⟩:=Kvk sep k (s.drop ((Lib.index s sep).toNat+sep.length))
  refine⟨by simp;omega,fun x hx=>?_⟩
  rcases List.mem_cons.1 hx with rfl | hx
  ·simp;omega
  have:=h2 x hx
  simp at this
  omega
theorem Kvl(s:Str):(Lib.splitN s [32] 4).length≤4∧∀ x∈Lib.splitN s [32] 4,x.length≤s.length:=by
 obtain⟨h1,h2⟩:=Kvk [32] (min 4 (s.length+1) - 1) s
 unfold Lib.splitN
 exact⟨by omega,h2⟩
theorem Kvm(x:Str)(k:Nat)(hk:50010<k)(hx:x.length≤40000)(acc:List Kxd)(ha:acc.length≤300000) :
  ∃ s b acc',Kzm k x=some (s,b)∧Kzv k x acc=some (b,acc')∧(b=true→acc'=acc++[s]∧ClS s):=by
 unfold Kzm Kzv
 rw[Kvj x (by omega),bi_some,bi_some]
 obtain⟨h4,hm⟩:=Kvl x
 generalize Lib.splitN x [32] 4=L at h4 hm
 by_cases hl:L.length=4
 ·obtain⟨a,b,c,d,rfl⟩:∃ a b c d,L=[a,b,c,d]:=by
   match L,hl with
   | [a,b,c,d],_=>exact⟨a,b,c,d,rfl⟩
  rw[show((([a,b,c,d]:List Str).length:Int) != 4)=false from rfl,show decide (((([a,b,c,d]:List Str).length:Int):Int)<4)=false from rfl]
  simp only[cond_false]
  rw[Lei,bi_some,bi_some,show subZ ([a,b,c,d]:List Str) 0 3=some [a,b,c] from rfl,bi_some,Lei,bi_some,bi_some]
  simp only[List.any_cons,List.any_nil,Bool.or_false]
  have la:=hm a (by simp)
  have lb:=hm b (by simp)
  have lc:=hm c (by simp)
  have ld:=hm d (by simp)
  cases h3:(([]:Str)==a||(([]:Str)==b||([]:Str)==c)) with
  | true=>
   have:(([]:Str)==a||(([]:Str)==b||(([]:Str)==c||([]:Str)==d)))=true:=by
    cases h1:(([]:Str)==a)<;>cases h2:(([]:Str)==b)<;>cases h5:(([]:Str)==c)<;>simp_all
   rw[this]
   exact⟨_,false,acc,rfl,rfl,fun h=>by cases h⟩
  | false=>
   obtain⟨n1,p1,p2⟩:=Kba k (by omega) a
   obtain⟨n2,q1,q2⟩:=numR a 9 (by decide) (by omega)
   obtain⟨v,bv,v',w1,w2,w3⟩:=Kvi d k (by omega) hk
   have hn:(([]:Str)==a||(([]:Str)==b||(([]:Str)==c||([]:Str)==d)))=(([]:Str)==d):=by
    cases h1:(([]:Str)==a)<;>cases h2:(([]:Str)==b)<;>cases h5:(([]:Str)==c)<;>simp_all
   rw[hn]
   have hr:bi (Kzo a 9) (fun y15=>bi (getZ ([a,b,c,d]:List Str) 3) fun x17=>bi (Kzu k x17) fun y19=>bi (getZ ([a,b,c,d]:List Str) 1) fun x21=>bi (getZ ([a,b,c,d]:List Str) 2) fun x23=>bi (apd acc [(⟨y15.1,x21,x23,y19.1⟩:Kxd)]) fun y25=>some ((y15.2&&y19.2),y25))=some ((numB a 9&&bv),acc++[⟨n2,b,c,v'⟩]):=by
    rw[show(9:Int)=((9:Nat):Int) from rfl,q1,bi_some,show getZ ([a,b,c,d]:List Str) 3=some d from rfl,bi_some,w2,bi_some,show getZ ([a,b,c,d]:List Str) 1=some b from rfl,bi_some,show getZ ([a,b,c,d]:List Str) 2=some c from rfl,bi_some,Ksy (by simp;omega),bi_some]
   rw[show getZ ([a,b,c,d]:List Str) 0=some a from rfl,bi_some,bi_some]
   simp only[cond_false]
   rw[hr]
   cases hd:(([]:Str)==d) with
   | true=>
    have:d=[]:=(eq_of_beq hd).symm
    subst this
    have hb:bv=false:=by
     unfold Kzl at w1
     have:=oSi w1
     cases this
     rfl
    subst hb
    rw[Bool.and_false]
    exact⟨_,false,_,rfl,rfl,fun h=>by cases h⟩
   | false=>
    simp only[cond_false]
    rw[p1,bi_some,show getZ ([a,b,c,d]:List Str) 3=some d from rfl,bi_some,w1,bi_some,show getZ ([a,b,c,d]:List Str) 1=some b from rfl,bi_some,show getZ ([a,b,c,d]:List Str) 2=some c from rfl,bi_some]
    refine⟨⟨n1,b,c,v⟩,numB a 9&&bv,_,?_,rfl,fun h=>?_⟩
    ·cases numB a 9 with
     | true=>rfl
     | false=>rfl
    ·rw[Bool.and_eq_true] at h
     obtain⟨e1,e2⟩:=w3 h.2
     rw[e1,p2 h.1,q2 h.1]
     exact⟨rfl,Nat.le_trans lb hx,Nat.le_trans lc hx,e2⟩
 ·have e1:(((L.length:Int):Int) != 4)=true:=by simp;omega
  rw[e1,dT (show((L.length:Int):Int)<4 by omega)]
  exact⟨_,false,acc,rfl,rfl,fun h=>by cases h⟩
end Go.Gk
namespace Go.Gk
theorem Kvn{α σ ρ:Type}{f:Nat→α→σ→Option (LS σ ρ)}{i:Nat}{x:α}{l:List α}{s:σ}{r:ρ}(h:f i x s=some (.out r)):rangeM f i (x :: l) s=some (.out r):=by simp only[rangeM,h]
theorem Kvo{α σ ρ:Type}{f:Nat→α→σ→Option (LS σ ρ)}{i:Nat}{x:α}{l:List α}{s t:σ}(h:f i x s=some (.go t)):rangeM f i (x :: l) s=rangeM f (i+1) l t:=by simp only[rangeM,h]
abbrev LT:Type:=List Kxd
def lsP(K n:Nat)(fl:Bool)(i5:Nat)(x7:Str)(s6:LT):Option (LS LT (LT×Int×Int)):=bi (Kzm K x7) fun y16=>bif ((!y16.2)||((!fl)&&(((i5:Int):Int)==(wi ((n:Int) - 1))))) then(bi (some (([]:LT),(i5:Int),(9:Int))) fun v=>some (.out v)) else(bi (apd s6 [y16.1]) fun y22=>some (.go y22))
def lsR(K:Nat)(s2:LT×Str×Int):Option (LS (LT×Str×Int) (LT ⊕ (Int×Bool×LT))):=bif !((s2.2.1:Str)==[]) then(bi (Kpk s2.2.1 [10]) fun y12=>bi (bif !y12.2.2 then(some (s2.1,true)) else(bi (Kzv K y12.1 s2.1) fun y18=>some (y18.2,!y18.1))) fun q14=>bif q14.2 then(bi (some (s2.2.2,false,q14.1)) fun v=>some (.out (.inr v))) else(some (.go (q14.1,y12.2.1,wi (s2.2.2+1))))) else(some (.out (.inl s2.1)))
theorem Kvp(K:Nat)(text:Str):Kzn K text=bif decide (((text.length:Int):Int)>200000) then(some ([],0,2)) else(bi (Kyw text) fun y3=>bi (rangeM (lsP K y3.1.length y3.2) 0 y3.1 ([]:List Kxd)) fun q=>goI q fun a10=>bi (Kyc K a10) fun y24=>bif (y24:Int) != 0 then(some ([],0,y24)) else(some (a10,0,0))):=rfl
theorem Kvq(K:Nat)(text:Str)(f:LT):Kzw K text f=bi (loopM (lsR K) K (f,text,0)) fun q=>orI q fun a6=>some (0,true,a6):=rfl
theorem Kvr(K:Nat)(hK:50010<K)(B:Nat)(hB:B≤40000)(n:Nat)(fl:Bool)(hn:n≤300000):∀ (m:Nat) (t:Str) (i k:Nat) (s:LT),t.length=m→m≤B→m<k→i+(linT t).1.length=n→fl=(linT t).2→s.length≤i→(∀ x∈s,ClS x)→
  ∃ p q,rangeM (lsP K n fl) i (linT t).1 s=some p∧loopM (lsR K) k (s,t,(i:Int))=some q∧((∃ s':LT,p=.go s'∧q=.inl s'∧∀ x∈s',ClS x)∨∃ (j:Nat) (z:LT),p=.out ([],(j:Int),9)∧q=.inr ((j:Int),false,z))
 | m,t,i,0,s,_,_,hk,_,_,_,_=>absurd hk (Nat.not_lt_zero _)
 | m,t,i,k+1,s,hm,hmB,hk,hi,hfl,hs,hx=>by
  rcases Kck 10 t with h | ⟨x,t',h1,h2⟩
  ·by_cases hn0:t=[]
   ·subst hn0
    rw[Kux] at hi hfl ⊢
    exact⟨.go s,.inl s,rfl,Kcs _ rfl,.inl ⟨s,rfl,rfl,hx⟩⟩
   ·rw[Kuy hn0 h] at hi hfl ⊢
    have hi':i+1=n:=hi
    have hfl':fl=false:=hfl
    subst hfl'
    obtain⟨r,b,z,r1,_,_⟩:=Kvm t K hK (by omega) s (by omega)
    have hw:((((i:Int):Int))==(wi ((n:Int) - 1)))=true:=by
     rw[Kss (by omega) (by omega)]
     exact beq_iff_eq.2 (by omega)
    have e1:lsP K n false i t s=some (.out ([],(i:Int),9)):=by
     unfold lsP
     rw[Kct r1,hw]
     cases b<;>rfl
    have e2:lsR K (s,t,(i:Int))=some (.out (.inr ((i:Int),false,s))):=by
     unfold lsR
     simp only[]
     rw[Kcu,dF (show ¬ t.length=0 from fun h0=>hn0 (List.eq_nil_of_length_eq_zero h0)),Kct (Kvd 10 (by omega)),Kvb h]
     rfl
    exact⟨_,_,Kvn e1,Kcs _ e2,.inr ⟨i,s,rfl,rfl⟩⟩
  ·have hl:t.length=x.length+1+t'.length:=by rw[h1];simp;omega
   rw[h1,Kuz t' h2] at hi hfl ⊢
   have hi':i+((linT t').1.length+1)=n:=hi
   have hfl':fl=(linT t').2:=hfl
   have hlast:fl=false→i+1≠n:=fun hf he=>by
    have h0:(linT t').1=[]:=List.eq_nil_of_length_eq_zero (by omega)
    rcases Kck 10 t' with g | ⟨y,t2,g1,g2⟩
    ·by_cases g0:t'=[]
     ·rw[g0,Kux,hf] at hfl';cases hfl'
     ·rw[Kuy g0 g] at h0;cases h0
    ·rw[g1,Kuz t2 g2] at h0;cases h0
   have hw:((!fl)&&(((i:Int):Int)==(wi ((n:Int) - 1))))=false:=by
    cases hf:fl with
    | true=>rfl
    | false=>
     have:=hlast hf
     rw[Bool.not_false,Bool.true_and,Kss (by omega) (by omega)]
     exact beq_eq_false_iff_ne.2 (by omega)
   obtain⟨r,b,z,r1,r2,r3⟩:=Kvm x K hK (by omega) s (by omega)
   have e1:lsP K n fl i x s=some (bif b then .go (s++[r]) else .out ([],(i:Int),9)):=by
    unfold lsP
    rw[Kct r1,hw,Kct (Ksy (by simp;omega))]
    cases b<;>rfl
   have e2:lsR K (s,x++10 :: t',(i:Int))=some (bif b then .go (z,t',((i+1:Nat):Int)) else .out (.inr ((i:Int),false,z))):=by
    unfold lsR
    simp only[]
    rw[Kcu,dF (show ¬ (x++10 :: t').length=0 by simp),Kct (Kvd 10 (by simp;omega)),Kvc t' h2]
    simp only[Bool.not_false,Bool.not_true,cond_true,cond_false]
    rw[r2]
    simp only[bi_some]
    rw[Kss (by omega) (by omega)]
    cases b<;>rfl
   cases b with
   | false=>exact⟨_,_,Kvn e1,Kcs _ e2,.inr ⟨i,z,rfl,rfl⟩⟩
   | true=>
    obtain⟨rfl,hg⟩:=r3 rfl
    obtain⟨p,q,p1,q1,pq⟩:=Kvr K hK B hB n fl hn t'.length t' (i+1) k (s++[r]) rfl (by omega) (by omega) (by omega) hfl' (by simp;omega) (fun y hy=>by
     rcases List.mem_append.1 hy with hy | hy
     ·exact hx y hy
     ·rw[List.mem_singleton.1 hy];exact hg)
    exact⟨p,q,(Kvo e1).trans p1,(Kcr _ e2).trans q1,pq⟩
theorem Kvs(L:List Str):(linL L).1.length≤L.length:=by
 unfold linL
 split
 ·simp
 exact Nat.le_refl _
theorem Kvt(k:Nat)(hk:50010<k)(l:List Kxd)(hs:∀ c∈l,ClS c) :
  ∃ e:Int,Kyc k l=some e∧Kyr k l=some e:=by
 by_cases hl:l.length≤2000
 ·obtain⟨e,h1,h2,_⟩:=Ktt k hk l hl hs
  exact⟨e,h1,h2⟩
 ·refine⟨2,?_,?_⟩
  ·unfold Kyc
   rw[dT (show((l.length:Int):Int)>2000 by omega)];rfl
  ·unfold Kyr
   rw[dT (show((l.length:Int):Int)>2000 by omega)];rfl
theorem Kvu(K:Nat)(hK:50010<K)(text:Str)(ht:text.length≤40000):∃ z e j,Kzn K text=some (z,j,e)∧Kzx K text=some (z,j,e):=by
 rw[Kvp]
 unfold Kzx
 have hle:(linT text).1.length≤text.length+1:=Nat.le_trans (Kvs _) (Kcm 10 text.length text (Nat.le_refl _)).2.2
 rw[dF (show ¬ ((text.length:Int)>200000) by omega),cond_false,cond_false,Kct (Kva text (by omega)),Kvq]
 obtain⟨p,q,p1,q1,pq⟩:=Kvr K hK text.length ht (linT text).1.length (linT text).2 (by omega) text.length text 0 K [] rfl (Nat.le_refl _) (by omega) (by omega) rfl (by simp) (fun x hx=>by cases hx)
 rw[show((0:Nat):Int)=0 from rfl] at q1
 rw[Kct p1,q1,bi_some]
 rcases pq with⟨s,rfl,rfl,hx⟩ | ⟨j,z,rfl,rfl⟩
 ·obtain⟨e,c1,c2⟩:=Kvt K hK s hx
  simp only[goI,orI,bi_some,Bool.not_true,cond_false]
  rw[Kct c1,Kct c2]
  cases (e != 0) with
  | true=>exact⟨_,_,_,rfl,rfl⟩
  | false=>exact⟨_,_,_,rfl,rfl⟩
 exact⟨_,_,_,rfl,rfl⟩
end Go.Gk
