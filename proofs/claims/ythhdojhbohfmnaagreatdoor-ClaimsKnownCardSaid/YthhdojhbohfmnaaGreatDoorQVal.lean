import Derived.Test.YthhdojhbohfmnaaGreatDoorQIns
set_option linter.all false
set_option maxRecDepth 100000
namespace Go.Gk
theorem Kva:∀ (l:List Int) ,Kzl l=some ((l.find? fun x=>x != 0).getD 0):=fun l=>by
 have key:∀ (l:List Int) (i:Nat),(bi (rangeM (σ:=Unit) (ρ:=Int) (fun i1 x3 s2=>bif (x3:Int) != 0 then(bi (some x3) fun v=>some (.out v)) else(some (.go ()))) i l ()) fun q=>goI q fun a6=>some 0)=some ((l.find? fun x=>x != 0).getD 0):=by
  intro l
  induction l with
  | nil=>intro i;rfl
  | cons x l ih=>
   intro i
   simp only[rangeM,List.find?_cons]
   by_cases h:x=0
   ·subst h
    exact ih (i+1)
   have:(x != 0)=true:=by simpa using h
   rw[this];rfl
 exact key l 0
theorem ors2(a b:Int):Kzl [a,b]=some (if a≠0 then a else b):=by
 rw[Kva]
 by_cases ha:a=0<;>by_cases hb:b=0<;>simp[ha,hb]
theorem Kvb{α β:Type}{chk:α→Option Int}{a b:α}{ea eb:Int}(ha:chk a=some ea)(hb:chk b=some eb)(v:Int→β)(k:Nat)(hk:10<k) :
  loopM (σ:=Int) (ρ:=Unit ⊕ β) (fun s2=>bif decide ((s2:Int)<2) then(bi (getZ ([a,b]:List α) s2) fun x12=>bi (chk x12) fun y14=>bif (y14:Int) != 0 then(bi (some (v y14)) fun v=>some (.out (.inr v))) else(some (.go (wi (s2+1))))) else(some (.out (.inl ())))) k 0 =
   some (if (if ea≠0 then ea else eb)≠0 then .inr (v (if ea≠0 then ea else eb)) else .inl ()):=by
 obtain⟨k,rfl⟩:∃ j,k=j+1+1+1:=⟨k - 3,by omega⟩
 have g0:getZ ([a,b]:List α) 0=some a:=rfl
 have g1:getZ ([a,b]:List α) 1=some b:=rfl
 have w1:wi (0+1)=1:=by decide
 have w2:wi (1+1)=2:=by decide
 have l0:decide ((0:Int)<2)=true:=rfl
 have l1:decide ((1:Int)<2)=true:=rfl
 have l2:decide ((2:Int)<2)=false:=rfl
 by_cases h1:ea=0
 ·subst h1
  rw[Kbl 1 (by rw[l0,g0];simp only[cond_true,bi_some,ha,bne_self_eq_false,cond_false,w1])]
  by_cases h2:eb=0
  ·subst h2
   rw[Kbl 2 (by rw[l1,g1];simp only[cond_true,bi_some,hb,bne_self_eq_false,cond_false,w2])]
   rw[Kbm (.inl ()) (by rw[l2];rfl)]
   rfl
  ·have h2':(eb != 0)=true:=by simpa using h2
   rw[Kbm (.inr (v eb)) (by rw[l1,g1];simp only[cond_true,bi_some,hb,h2'])]
   simp[h2]
 ·have h1':(ea != 0)=true:=by simpa using h1
  rw[Kbm (.inr (v ea)) (by rw[l0,g0];simp only[cond_true,bi_some,ha,h1'])]
  simp[h1]
theorem Kvc(k:Nat)(hk:2000<k)(A B:List Kxb)(hl:A.length+B.length<60)(hA:∀ c∈A,ClS c)(hB:∀ c∈B,ClS c) :
  ∃ q e ea eb,Kyv k A B=some (q,e)∧Kye k A=some ea∧Kzg k A=some ea∧Kzg k B=some eb∧
   (if (if ea≠0 then ea else eb)≠0 then(q,e)=([],if ea≠0 then ea else eb) else Kzq k A B=some (q,e)):=by
 obtain⟨ea,a1,a2,a3⟩:=Kst k hk A (by omega) hA
 obtain⟨eb,b1,b2,b3⟩:=Kst k hk B (by omega) hB
 have hL:=Kvb (β:=(List Kxb)×Int) (chk:=Kye k) a1 b1 (fun y=>([],y)) k (by omega)
 by_cases h:(if ea≠0 then ea else eb)≠0
 ·refine⟨[],if ea≠0 then ea else eb,ea,eb,?_,a1,a2,b2,?_⟩
  ·unfold Kyv
   rw[hL,if_pos h]
   rfl
  ·rw[if_pos h]
 ·have h0:ea=0∧eb=0:=by
   by_cases h1:ea=0
   ·subst h1;simp at h;exact⟨rfl,h⟩
   ·rw[if_pos h1] at h;exact absurd h1 h
  obtain⟨q,e,p1,p2⟩:=Kuj k hk A B hl (a3 h0.1) (b3 h0.2)
  refine⟨q,e,ea,eb,?_,a1,a2,b2,?_⟩
  ·unfold Kyv
   rw[hL,if_neg h]
   exact p1
  ·rw[if_neg h];exact p2
theorem Kvd(q:List Kxb):Kzr q q=some true:=by
 unfold Kzr
 rw[bne_self_eq_false,cond_false]
 have key:∀ (l:List Kxb) (i:Nat),(∀ j x,l[j]?=some x→q[i+j]?=some x)→rangeM (σ:=Unit) (ρ:=Bool) (fun i3 x5 s4=>bi (getZ q (i3:Int)) fun x14=>bif !(((x5.At:Int)==x14.At)&&(((x5.Node:Str)==x14.Node)&&(((x5.Name:Str)==x14.Name)&&((((x5.Value.Kind:Int)==x14.Value.Kind)&&(((x5.Value.Number:Int)==x14.Value.Number)&&(((x5.Value.Words:Str)==x14.Value.Words)&&(decide (([x5.Value.Version.1,x5.Value.Version.2.1,x5.Value.Version.2.2.1,x5.Value.Version.2.2.2]:List Int)=[x14.Value.Version.1,x14.Value.Version.2.1,x14.Value.Version.2.2.1,x14.Value.Version.2.2.2])&&true))))&&true)))) then(bi (some false) fun v=>some (.out v)) else(some (.go ()))) i l ()=some (.go ()):=by
  intro l
  induction l with
  | nil=>intro i _;rfl
  | cons x l ih=>
   intro i h
   have h0:=h 0 x rfl
   rw[Nat.add_zero] at h0
   simp only[rangeM]
   rw[Kwj h0,bi_some,eqE,dT rfl]
   simp only[Bool.not_true,cond_false]
   exact ih (i+1) fun j y hy=>by rw[show i+1+j=i+(j+1) by omega];exact h (j+1) y (by simpa using hy)
 rw[key q 0 fun j x h=>by rw[Nat.zero_add];exact h]
 rfl
theorem Kve(s1 s2:List Int):∃ y,Kyw s1 s2=some y:=by
 unfold Kyw
 have key:∀ (l:List Int) (i:Nat),∃ r,rangeM (σ:=Unit) (ρ:=Int) (fun i1 x4 s3=>bif decide (((i1:Int):Int)≥(s2.length:Int)) then(bi (some 1) fun v=>some (.out v)) else(bi (getZ s2 (i1:Int)) fun x17=>bi (Kyb x4 x17) fun y19=>bif (y19:Int) != 0 then(bi (some y19) fun v=>some (.out v)) else(some (.go ())))) i l ()=some r:=by
  intro l
  induction l with
  | nil=>intro i;exact⟨_,rfl⟩
  | cons x l ih=>
   intro i
   simp only[rangeM]
   by_cases h:(i:Int)≥(s2.length:Int)
   ·rw[dT h];exact⟨_,rfl⟩
   rw[dF h,cond_false,Kwj (gGe (show i<s2.length by omega)),bi_some,Ley,bi_some]
   cases (cI x s2[i] != 0) with
   | true=>exact⟨_,rfl⟩
   | false=>exact ih (i+1)
 obtain⟨r,hr⟩:=key s1 0
 rw[hr,bi_some]
 cases r with
 | go u=>
  simp only[goI]
  cases decide (((s1.length:Int):Int)<(s2.length:Int))<;>exact⟨_,rfl⟩
 | out v=>exact⟨_,rfl⟩
theorem Kvf(k:Nat)(hk:20<k)(a b:Kxa)(ha:AtS a)(hb:AtS b) :
  ∃ n g e ea eb,Kyy k a b=some (n,g,e)∧Kze k a=some ea∧Kze k b=some eb∧
   (if (if ea≠0 then ea else eb)≠0 then(n,g,e)=(0,false,if ea≠0 then ea else eb) else e=0∧Kzs a b=some (n,g)):=by
 obtain⟨a1,a2⟩:=Ksq k (by omega) a ha
 obtain⟨b1,b2⟩:=Ksq k (by omega) b hb
 have hL:=Kvb (β:=Int×Bool×Int) (chk:=Kxz k) a1 b1 (fun y=>(0,false,y)) k (by omega)
 by_cases h:(if attrE k a≠0 then attrE k a else attrE k b)≠0
 ·refine⟨0,false,if attrE k a≠0 then attrE k a else attrE k b,_,_,?_,a2,b2,?_⟩
  ·unfold Kyy
   rw[hL,if_pos h]
   rfl
  ·rw[if_pos h]
 ·have tot:∃ r,Kzs a b=some r:=by
   unfold Kzs
   cases (a.Kind != b.Kind) with
   | true=>exact⟨_,rfl⟩
   | false=>
    rw[cond_false,Ley,bi_some]
    unfold Ksg
    rw[bi_some]
    have hv:∃ y,Kyw ([a.Version.1,a.Version.2.1,a.Version.2.2.1,a.Version.2.2.2]:List Int) ([b.Version.1,b.Version.2.1,b.Version.2.2.1,b.Version.2.2.2]:List Int)=some y:=by
     exact Kve _ _
    obtain⟨y,hy⟩:=hv
    rw[hy,bi_some,or3,bi_some]
    exact⟨_,rfl⟩
  obtain⟨⟨n,g⟩,hn⟩:=tot
  refine⟨n,g,0,_,_,?_,a2,b2,?_⟩
  ·unfold Kyy
   rw[hL,if_neg h]
   simp only[bi_some,orI]
   unfold Kyx
   unfold Kzs at hn
   cases hc:(a.Kind != b.Kind) with
   | true=>rw[hc] at hn;cases hn;rfl
   | false=>
    rw[hc] at hn
    simp only[cond_false] at hn ⊢
    cases h1:Kyb a.Number b.Number with
    | none=>rw[h1] at hn;cases hn
    | some y1=>
     rw[h1] at hn
     simp only[bi_some] at hn ⊢
     cases h2:Ksg a.Words b.Words with
     | none=>rw[h2] at hn;cases hn
     | some y2=>
      rw[h2] at hn
      simp only[bi_some] at hn ⊢
      cases h3:Kyw ([a.Version.1,a.Version.2.1,a.Version.2.2.1,a.Version.2.2.2]:List Int) ([b.Version.1,b.Version.2.1,b.Version.2.2.1,b.Version.2.2.2]:List Int) with
      | none=>rw[h3] at hn;cases hn
      | some y3=>
       rw[h3] at hn
       simp only[bi_some] at hn ⊢
       cases h4:Kyc [y1,y2,y3] with
       | none=>rw[h4] at hn;cases hn
       | some y4=>rw[h4] at hn;cases hn;rfl
  ·rw[if_neg h];exact⟨rfl,hn⟩
end Go.Gk
namespace Go.Gk
section
variable{K V:Type}[BEq K][LawfulBEq K][KLt K]
theorem Kuk(e:K×V)(m:List (K×V))(k:K):mGet (e :: m) k=if k==e.1 then some e.2 else mGet m k:=by
 unfold mGet
 simp only[List.find?_cons]
 cases (k==e.1)<;>rfl
theorem Kul{m:List (K×V)}{k:K}{v:V}(hn:∀ e∈m,e.1≠k)(k':K):mGet (mIns k v m) k'=if k'==k then some v else mGet m k':=by
 induction m with
 | nil=>simp[mIns,Kuk]
 | cons e m ih=>
  simp only[mIns]
  cases hlt:KLt.lt k e.1 with
  | true=>simp[Kuk]
  | false=>
   simp only[cond_false,Kuk,ih fun x hx=>hn x (List.mem_cons_of_mem _ hx)]
   by_cases h1:k'=e.1
   ·subst h1
    have:(e.1==k)=false:=by simpa using hn e (mCs ..)
    simp[this]
   have:(k'==e.1)=false:=by simpa using h1
   simp[this]
theorem Kum{m:List (K×V)}{k:K}{v:V}(hn:∀ e∈m,e.1≠k):mSet m k v=mIns k v m:=by
 unfold mSet
 have:m.findIdx? (fun e=>k==e.1)=none:=by
  rw[List.findIdx?_eq_none_iff]
  intro e he
  simpa using (hn e he).symm
 rw[this]
theorem Kun{m:List (K×V)}{k:K}{v:V}{i:Nat}(h:m.findIdx? (fun e=>k==e.1)=some i):mSet m k v=m.set i (k,v):=by unfold mSet;rw[h]
theorem Kuo(m:List (K×V))(k:K)(v:V)(k':K):mGet (mSet m k v) k'=if k'==k then some v else mGet m k':=by
 cases hf:m.findIdx? (fun e=>k==e.1) with
 | none=>
  have hn:∀ e∈m,e.1≠k:=fun e he=>by
   have:=List.findIdx?_eq_none_iff.1 hf e he
   intro e2;subst e2;simp at this
  rw[Kum hn,Kul hn]
 | some i=>
  rw[Kun hf]
  induction m generalizing i with
  | nil=>simp at hf
  | cons e m ih=>
   rw[List.findIdx?_cons] at hf
   by_cases hk:k=e.1
   ·subst hk
    simp at hf
    subst hf
    simp only[List.set_cons_zero,Kuk]
    by_cases h2:k'=e.1
    ·subst h2;simp
    have:(k'==e.1)=false:=by simpa using h2
    simp[this]
   have hk2:(k==e.1)=false:=by simpa using hk
   rw[hk2] at hf
   simp only[Bool.false_eq_true,if_false,Option.map_eq_some_iff] at hf
   obtain⟨j,hj,rfl⟩:=hf
   simp only[List.set_cons_succ,Kuk,ih j hj]
   by_cases h2:k'=e.1
   ·subst h2
    have:(e.1==k)=false:=by simpa using Ne.symm hk
    simp[this]
   have:(k'==e.1)=false:=by simpa using h2
   simp[this]
end
abbrev sub(c:Kxb):Kxc:=⟨c.Node,c.Name⟩
def gT(m:List (Kxc×(Tl Kxb)))(s:Kxc):Tl Kxb:=(mGet m s).getD ((1,[]):Tl Kxb)
theorem Kup(m:List (Kxc×(Tl Kxb)))(s:Kxc)(r:Tl Kxb)(s':Kxc):gT (mSet m s r) s'=if s'=s then r else gT m s':=by
 unfold gT
 rw[Kuo]
 by_cases h:s'=s
 ·subst h;simp
 have:(s'==s)=false:=by simpa using h
 simp[this,h]
structure InvR(al:List Bool)(m:List (Kxc×(Tl Kxb)))(L:List Kxb):Prop where
 xs:∀ s,(gT m s).2=L.filter fun c=>decide (sub c=s)
 lv:∀ s,(gT m s).1=1∨∃ q,(gT m s).1=q+2∧al[q]?=some true
 ds:∀ s s',s≠s'→(gT m s).1=(gT m s').1→(gT m s).1=1
theorem Kuq(al:List Bool):InvR al [] []:=⟨fun s=>rfl,fun s=>.inl rfl,fun s s' _ _=>rfl⟩
theorem Kur{al:List Bool}{m:List (Kxc×(Tl Kxb))}{L:List Kxb}(h:InvR al m L)(hl:L.length≤900)(x:Kxb) :
  ∃ r al',appT al (gT m (sub x)) [x]=some (r,al')∧InvR al' (mSet m (sub x) r) (L++[x]):=by
 have hlen:(gT m (sub x)).2.length≤900:=by rw[h.xs];exact Nat.le_trans (List.length_filter_le _ _) hl
 have fin:∀ al0:List Bool,al0.length=al.length→(∀ s,s≠sub x→(gT m s).1=1∨∃ q,(gT m s).1=q+2∧al0[q]?=some true)→
   InvR (al0++[true]) (mSet m (sub x) (al.length+2,(gT m (sub x)).2++[x])) (L++[x]):=by
  intro al0 h0 hlv
  refine⟨fun s=>?_,fun s=>?_,fun s s' hn he=>?_⟩
  ·rw[Kup,List.filter_append]
   by_cases hs:s=sub x
   ·subst hs
    rw[if_pos rfl,h.xs]
    simp
   ·rw[if_neg hs,h.xs]
    have:decide (sub x=s)=false:=by simpa using fun e=>hs e.symm
    simp[List.filter_cons,this]
  ·rw[Kup]
   by_cases hs:s=sub x
   ·rw[if_pos hs]
    exact .inr ⟨al.length,rfl,by rw[gAr (by omega),h0];simp⟩
   ·rw[if_neg hs]
    rcases hlv s hs with h1 | ⟨q,h1,h2⟩
    ·exact .inl h1
    ·refine .inr ⟨q,h1,?_⟩
     rw[gAl (gEs.1 h2).1]
     exact h2
  ·rw[Kup] at he ⊢
   rw[Kup] at he
   have lt:∀ s,s≠sub x→(gT m s).1≠al.length+2:=fun s hs e=>by
    rcases hlv s hs with h1 | ⟨q,h1,h2⟩
    ·omega
    ·have:=(gEs.1 h2).1
     omega
   by_cases hs:s=sub x
   ·rw[if_pos hs] at he
    rw[if_neg (fun e=>hn (hs.trans e.symm))] at he
    exact absurd he.symm (lt s' fun e=>hn (hs.trans e.symm))
   ·rw[if_neg hs] at he ⊢
    by_cases hs':s'=sub x
    ·rw[if_pos hs'] at he
     exact absurd he (lt s hs)
    ·rw[if_neg hs'] at he
     exact h.ds s s' hn he
 unfold appT
 rw[Kwa (by simp;omega)]
 simp only[bi_some,List.isEmpty_cons,cond_false]
 rcases h.lv (sub x) with h1 | ⟨q,h1,h2⟩
 ·rw[h1]
  exact⟨_,_,rfl,fin al rfl fun s hs=>h.lv s⟩
 ·rw[h1]
  simp only[h2,Option.getD_some,cond_true]
  refine⟨_,_,rfl,fin (al.set q false) (by simp) fun s hs=>?_⟩
  rcases h.lv s with h3 | ⟨q',h3,h4⟩
  ·exact .inl h3
  ·refine .inr ⟨q',h3,?_⟩
   have hq:q≠q':=fun e=>by
    subst e
    have:=h.ds s (sub x) hs (h3.trans h1.symm)
    omega
   rw[gSn hq]
   exact h4
theorem Kus(l:List Kxb)(hl:l.length≤900)(fresh:Int)(al:List Bool):∃ m al',Kyl l fresh al=some (⟨fresh,m⟩,al')∧InvR al' m l:=by
 have key:∀ (R:List Kxb) (i:Nat) (L:List Kxb) (al:List Bool) (m:List (Kxc×(Tl Kxb))),InvR al m L→(L++R).length≤900→
   ∃ m' al',rangeF (σ:=(List Bool)×(List (Kxc×(Tl Kxb)))) (fun i1 x3 s2=>bi (appT s2.1 ((mGet s2.2 (⟨x3.Node,x3.Name⟩:Kxc)).getD ((1,[]):Tl Kxb)) [x3]) fun y16=>some (y16.2,(mSet s2.2 (⟨x3.Node,x3.Name⟩:Kxc) y16.1))) i R (al,m)=some (al',m')∧InvR al' m' (L++R):=by
  intro R
  induction R with
  | nil=>intro i L al m h _;exact⟨m,al,rfl,by simpa using h⟩
  | cons x R ih=>
   intro i L al m h hlen
   have hlen':=hlen
   simp only[List.length_append,List.length_cons] at hlen'
   obtain⟨r,al1,e1,e2⟩:=Kur h (by omega) x
   obtain⟨m',al',e3,e4⟩:=ih (i+1) (L++[x]) al1 _ e2 (by simp;omega)
   refine⟨m',al',?_,by simpa using e4⟩
   simp only[rangeF]
   rw[show appT al ((mGet m (⟨x.Node,x.Name⟩:Kxc)).getD ((1,[]):Tl Kxb)) [x]=some (r,al1) from e1]
   exact e3
 obtain⟨m,al',h1,h2⟩:=key l 0 [] al [] (Kuq al) (by simpa using hl)
 refine⟨m,al',?_,by simpa using h2⟩
 unfold Kyl
 rw[h1]
 rfl
theorem Kut(p q:Kxb→Bool)(fresh v:Int):∀ L:List Kxb,kGo p fresh v (L.filter q)=kGo (fun c=>q c&&p c) fresh v L
 | []=>rfl
 | c :: L=>by
  rw[List.filter_cons]
  cases hq:q c with
  | true=>simp only[if_true,kGo,hq,Bool.true_and,Kut p q fresh v L]
  | false=>simp only[Bool.false_eq_true,if_false,kGo,hq,Bool.false_and,Kut p q fresh v L]
theorem Kuu{al:List Bool}{m:List (Kxc×(Tl Kxb))}{l:List Kxb}(h:InvR al m l)(hl:l.length≤900)(fresh:Int)(node name:Str)(v:Int) :
  Kym ⟨fresh,m⟩ node name v=Kzm l fresh node name v:=by
 unfold Kym Kzm
 have e:((mGet m (⟨node,name⟩:Kxc)).getD ((1,[]):Tl Kxb)).2=l.filter fun c=>decide (sub c=⟨node,name⟩):=h.xs ⟨node,name⟩
 simp only[e]
 have hf:=List.length_filter_le (fun c=>decide (sub c=(⟨node,name⟩:Kxc))) l
 rw[show Nat.ble (l.filter fun c=>decide (sub c=(⟨node,name⟩:Kxc))).length 4294967296=true from Nat.ble_eq_true_of_le (by omega),show Nat.ble l.length 4294967296=true from Nat.ble_eq_true_of_le (by omega)]
 rw[←List.filter_reverse,Kut]
 congr 3
 funext c
 unfold kHit
 rw[Bool.eq_iff_iff]
 simp only[Bool.and_eq_true,decide_eq_true_eq,beq_iff_eq,Kxc.mk.injEq]
 constructor
 ·rintro⟨⟨a,b⟩,c⟩;exact⟨a,b,c⟩
 ·rintro⟨a,b,c⟩;exact⟨⟨a,b⟩,c⟩
end Go.Gk
namespace Go.Gk
def freE(n:Int):Int:=if 1≤n∧n≤345686400 then 0 else 1
theorem Ksk(n:Int):Kyf n=some (freE n)∧Kzh n=some (freE n):=by
 unfold Kyf Kzh Kxx Kzd freE
 simp only[bi_some]
 by_cases h:1≤n∧n≤345686400
 ·rw[if_pos h,dF (show ¬ n<1 by omega),dF (show ¬ n>345686400 by omega),dT h.1,dT h.2]
  exact⟨rfl,rfl⟩
 rw[if_neg h]
 by_cases h1:n<1
 ·rw[dT h1,dF (show ¬ 1≤n by omega)]
  exact⟨rfl,rfl⟩
 rw[dF h1,dT (show n>345686400 by omega),dT (show 1≤n by omega),dF (show ¬ n≤345686400 by omega)]
 exact⟨rfl,rfl⟩
def keyE(s:Str):Int:=if keyB s then 0 else 5
theorem Ksl(s:Str)(hs:s.length≤1000):Kzj s=some (keyE s):=by
 unfold Kzj Kzi keyE
 rw[keyR s (by omega)]
 simp only[bi_some]
 cases keyB s<;>rfl
def momE(n:Int):Int:=if momB n then 0 else 1
theorem Ksm(n:Int):Kyk n=some (momE n)∧Kzk n=some (momE n):=by
 unfold Kyk Kzk momE
 rw[(Ksr n).1,(Ksr n).2]
 simp only[bi_some]
 cases momB n<;>exact⟨rfl,rfl⟩
theorem Ksn(k:Nat)(hk:2000<k)(a b:Str)(ha:a.length≤1000)(hb:b.length≤1000):Kyi k [a,b]=some (!keyB a||!keyB b):=by
 unfold Kyi Kyh Kyg
 simp only[rangeM]
 rw[keyP k a (by omega) (by omega),keyP k b (by omega) (by omega)]
 cases keyB a<;>cases keyB b<;>rfl
theorem ors5(a b c d e:Int):Kzl [a,b,c,d,e]=some (if a≠0 then a else if b≠0 then b else if c≠0 then c else if d≠0 then d else e):=by
 rw[Kva]
 by_cases ha:a=0<;>by_cases hb:b=0<;>by_cases hc:c=0<;>by_cases hd:d=0<;>by_cases he:e=0<;>simp[ha,hb,hc,hd,he]
def zAttr:Kxa:=⟨0,0,[],(0,0,0,0)⟩
theorem Kso(l:List Kxb)(hl:l.length≤900)(fresh:Int)(node name:Str)(v:Int):∃ a kn,Kzm l fresh node name v=some (a,kn):=by
 unfold Kzm
 rw[show Nat.ble l.length 4294967296=true from Nat.ble_eq_true_of_le (by omega)]
 exact⟨_,_,rfl⟩
theorem Ksp(k:Nat)(hk:2000<k)(l:List Kxb)(hl:l.length≤900)(hs:∀ c∈l,ClS c)(fresh:Int)(node name:Str)(hn:node.length≤1000)(hm:name.length≤1000)(v:Int)(al:List Bool) :
  ∃ a kn e al' e0,Kyn k l fresh node name v al=some (a,kn,e,al')∧Kye k l=some e0∧Kzg k l=some e0∧
   Kzl [e0,freE fresh,keyE node,keyE name,momE v]=some e∧
   (if e=0 then Kzm l fresh node name v=some (a,kn) else(a,kn)=(zAttr,false)):=by
 obtain⟨e0,c1,c2,_⟩:=Kst k hk l (by omega) hs
 have hcf:Kyj k l fresh [node,name]=some (if e0≠0 then e0 else if freE fresh≠0 then freE fresh else if keyE node≠0 then keyE node else keyE name):=by
  unfold Kyj
  rw[c1,bi_some,(Ksk fresh).1,bi_some,Ksn k hk node name hn hm,bi_some]
  by_cases h0:e0=0
  ·by_cases h1:freE fresh=0
   ·simp only[h0,h1,bne_self_eq_false,cond_false,ne_eq,not_true,if_false]
    unfold keyE
    cases keyB node<;>cases keyB name<;>rfl
   ·have:(freE fresh != 0)=true:=by simpa using h1
    simp[h0,h1,this]
  ·have:(e0 != 0)=true:=by simpa using h0
   simp[h0,this]
 have hor:=ors5 e0 (freE fresh) (keyE node) (keyE name) (momE v)
 unfold Kyn
 rw[hcf,bi_some]
 by_cases hF:(if e0≠0 then e0 else if freE fresh≠0 then freE fresh else if keyE node≠0 then keyE node else keyE name)=0
 ·have h4:e0=0∧freE fresh=0∧keyE node=0∧keyE name=0:=by
   by_cases h0:e0=0
   ·by_cases h1:freE fresh=0
    ·by_cases h2:keyE node=0
     ·simp[h0,h1,h2] at hF;exact⟨h0,h1,h2,hF⟩
     ·simp[h0,h1,h2] at hF
    ·simp[h0,h1] at hF
   ·simp[h0] at hF
  rw[hF]
  simp only[bne_self_eq_false,cond_false]
  rw[(Ksm v).1,bi_some]
  have horE:Kzl [e0,freE fresh,keyE node,keyE name,momE v]=some (momE v):=by
   rw[hor,h4.1,h4.2.1,h4.2.2.1,h4.2.2.2]
   simp
  by_cases h5:momE v=0
  ·rw[h5]
   simp only[bne_self_eq_false,cond_false]
   obtain⟨m,al',r1,r2⟩:=Kus l hl fresh al
   obtain⟨a,kn,hkn⟩:=Kso l hl fresh node name v
   rw[r1,bi_some,Kuu r2 hl,hkn,bi_some]
   exact⟨_,_,_,_,e0,rfl,c1,c2,by rw[←h5];exact horE,by rw[if_pos rfl]⟩
  ·have:(momE v != 0)=true:=by simpa using h5
   rw[this,cond_true]
   exact⟨_,_,_,_,e0,rfl,c1,c2,horE,by rw[if_neg h5];rfl⟩
 ·have hb:((if e0≠0 then e0 else if freE fresh≠0 then freE fresh else if keyE node≠0 then keyE node else keyE name) != 0)=true:=by simpa only[bne_iff_ne,ne_eq] using hF
  rw[hb,cond_true]
  refine⟨_,_,_,_,e0,rfl,c1,c2,?_,by rw[if_neg hF];rfl⟩
  rw[hor]
  congr 1
  by_cases h0:e0=0
  ·by_cases h1:freE fresh=0
   ·by_cases h2:keyE node=0
    ·by_cases h3:keyE name=0
     ·simp[h0,h1,h2,h3] at hF
     ·simp[h0,h1,h2,h3]
    ·simp[h0,h1,h2]
   ·simp[h0,h1]
  ·simp[h0]
end Go.Gk
namespace Go.Gk
theorem Ksx{l:List Int}{b:Int}{s:Kwz}(h:At l 0 b s)(n:Int)(hl:l.length≤9223372036854775807)(h1:b<4000000000000000000)(hn:1≤n)(hn2:n≤4611686018427387904) :
  Ok (Kxj s n) fun r=>0≤r.1∧r.1<n∧At l 0 (b+1) r.2:=by
 obtain⟨e1,e2,e3⟩:=h
 obtain⟨c,c0,c1,hc⟩:=Kvw l s.v_at n hl (by omega) (by omega) hn hn2
 rw[←e1] at hc
 exact⟨_,hc,c0,c1,e1,by simp only;omega,by simp only;omega⟩
theorem Ksy{l:List Int}{b:Int}{s:Kwz}(h:At l 0 b s)(n:Int)(hl:l.length≤9223372036854775807)(h1:b<4000000000000000000)(hn:1≤n)(hn2:n≤4611686018427387904) :
  Ok (Kxl s n) fun r=>At l 0 (b+1) r.2:=Kbs (Kca h n hl (by omega) (by omega) hn hn2) fun r h=>h.up (by omega) (by omega)
theorem Ksz{l:List Int}{b:Int}{s:Kwz}(h:At l 0 b s)(xs:List Int)(hl:l.length≤9223372036854775807)(h1:b<4000000000000000000)(hn:1≤xs.length)(hn2:xs.length≤1000) :
  Ok (Kxn s xs) fun r=>r.1∈xs∧At l 0 (b+1) r.2:=Kbs (Kcb h xs hl (by omega) (by omega) hn hn2) fun r h=>⟨h.1,h.2.up (by omega) (by omega)⟩
theorem Kta{l:List Int}{b:Int}{s:Kwz}(h:At l 0 b s)(xs:List Str)(hl:l.length≤9223372036854775807)(h1:b<4000000000000000000)(hn:1≤xs.length)(hn2:xs.length≤1000) :
  Ok (Kxm s xs) fun r=>r.1∈xs∧At l 0 (b+1) r.2:=Kbs (Kcc h xs hl (by omega) (by omega) hn hn2) fun r h=>⟨h.1,h.2.up (by omega) (by omega)⟩
theorem Ktb:∃ w,Ksb [119] 101=some w∧w.length≤1000:=⟨_,rfl,by decide⟩
theorem Ktc{l:List Int}{b:Int}{s:Kwz}(h:At l 0 b s)(hl:l.length≤9223372036854775807)(h1:b<3000000000000000000) :
  Ok (Kxp s) fun r=>AtS r.1∧At l 0 (b+20) r.2:=by
 unfold Kxp
 refine Kbq (Ksz h _ hl (by omega) (by simp) (by simp)) fun y1 ⟨_,t1⟩=>?_
 refine Kbq (P:=fun q=>AtS q.2∧At l 0 (b+3) q.1) ?_ fun q3 ⟨a3,t3⟩=>?_
 ·refine Kbt (fun _=>?_) (fun _=>Kbt (fun _=>?_) (fun _=>Kbt (fun _=>?_) (fun _=>?_)))
  ·refine Kbq (Ksz t1 _ hl (by omega) (by simp) (by simp)) fun y6 ⟨_,t6⟩=>Kbp ⟨by simp[AtS],t6.up (by omega) (by omega)⟩
  ·refine Kbq (Kta t1 _ hl (by omega) (by simp) (by simp)) fun y10 ⟨m10,t10⟩=>Kbp ⟨?_,t10.up (by omega) (by omega)⟩
   simp only[List.mem_cons,List.not_mem_nil,or_false] at m10
   rcases m10 with e | e | e | e | e<;>simp[AtS,e]
  ·refine Kbq (Ksx t1 2 hl (by omega) (by omega) (by omega)) fun y14 ⟨_,_,t14⟩=>Kbp ⟨by simp[AtS],t14.up (by omega) (by omega)⟩
  ·refine Kbq (Ksz t1 _ hl (by omega) (by simp) (by simp)) fun y17 ⟨_,t17⟩=>?_
   refine Kbq (Ksz t17 _ hl (by omega) (by simp) (by simp)) fun y19 ⟨_,t19⟩=>Kbp ⟨by simp[AtS],t19.up (by omega) (by omega)⟩
 ·refine Kbq (Ksy t3 60 hl (by omega) (by omega) (by omega)) fun y21 t21=>?_
  refine Kbq (P:=fun q=>AtS q.2∧At l 0 (b+20) q.1) ?_ fun q23 ⟨a,t⟩=>Kbp ⟨a,t⟩
  refine Kbt (fun _=>?_) (fun _=>Kbp ⟨a3,t21.up (by omega) (by omega)⟩)
  refine Kbq (Kce t21 0 1 hl (by omega) (by omega) (by omega) (by omega) (by omega)) fun y26 t26=>?_
  obtain⟨w,hw,hwl⟩:=Ktb
  refine Kbr hw ?_
  refine Kbq (Kta t26 _ hl (by omega) (by simp) (by simp)) fun y30 ⟨m30,t30⟩=>Kbp ⟨?_,t30.up (by omega) (by omega)⟩
  simp only[List.mem_cons,List.not_mem_nil,or_false] at m30
  rcases m30 with e | e | e | e<;>simp[AtS,e,hwl]
theorem Ktd{l:List Int}{b:Int}{s:Kwz}(h:At l 0 b s)(hl:l.length≤9223372036854775807)(h1:b<3000000000000000000) :
  Ok (Kxs s) fun r=>AtS r.1∧At l 0 (b+20) r.2:=by
 unfold Kxs
 exact Kbq (Ktc h hl h1) fun r hr=>Kbp hr
def Cls(n:Nat)(L:List Kxb):Prop:=L.length≤n∧∀ c∈L,ClS c
theorem Kte{n:Nat}{L:List Kxb}(h:Cls n L){c:Kxb}(hc:ClS c):Cls (n+1) (L++[c]):=⟨by rw[List.length_append,List.length_singleton];have:=h.1;omega,fun x hx=>(List.mem_append.1 hx).elim (h.2 x) fun hx=>by rw[List.mem_singleton.1 hx];exact hc⟩
theorem Cls.up{n m:Nat}{L:List Kxb}(h:Cls n L)(hm:n≤m):Cls m L:=⟨Nat.le_trans h.1 hm,h.2⟩
theorem Ktf{l:List Int}{b:Int}{s:Kwz}(h:At l 0 b s)(many:Nat)(hm:many≤4)(hl:l.length≤9223372036854775807)(h1:b<2000000000000000000) :
  Ok (Kxq s (many:Int)) fun r=>Cls (6 * many+1) r.1∧At l 0 (b+5000) r.2:=by
 unfold Kxq
 refine Kbq (Ksx h 5 hl (by omega) (by omega) (by omega)) fun y1 ⟨_,_,t1⟩=>?_
 refine Kbq (P:=fun q:Kwz×(List Kxb)×Int=>Cls (6 * many) q.2.1∧At l 0 (b+4100) q.1) (Kbu (dT (by omega)) (Kbs (Kbw (fun j q=>Cls (6 * j) q.2.1∧At l 0 (b+1+1000 * (j:Int)) q.1) ⟨⟨Nat.zero_le _,fun c hc=>by cases hc⟩,t1.up (by omega) (by omega)⟩ ?_) fun q hq=>⟨hq.1.up (by omega),hq.2.up (by omega) (by omega)⟩)) fun q6 ⟨c6,t6⟩=>?_
 ·intro j s4 hj ⟨c4,t4⟩
  have hj4:j<4:=by omega
  refine Kbq (P:=fun q:Kwz×(List Kxb)=>Cls (6 * j+6) q.2∧At l 0 (b+1+1000 * (j:Int)+800) q.1) (Kbs (Kbv (fun n q=>Cls (6 * j+3 * n) q.2∧At l 0 (b+1+1000 * (j:Int)+350 * (n:Int)) q.1) ⟨c4,t4.up (by omega) (by omega)⟩ ?_) fun q hq=>⟨hq.1.up (by simp),hq.2.up (by omega) (by simp)⟩) fun q18 ⟨c18,t18⟩=>?_
  ·intro n x17 s16 hx ⟨c16,t16⟩
   have hn:n<2:=by have:=(gEs.1 hx).1;simpa using this
   have hx17:x17.length≤1000:=by
    have:=mOg hx
    simp only[List.mem_cons,List.not_mem_nil,or_false] at this
    rcases this with e | e<;>simp[e]
   refine Kbq (P:=fun q:Kwz×(List Kxb)=>Cls (6 * j+3 * n+3) q.2∧At l 0 (b+1+1000 * (j:Int)+350 * (n:Int)+300) q.1) (Kbs (Kbv (fun u q=>Cls (6 * j+3 * n+u) q.2∧At l 0 (b+1+1000 * (j:Int)+350 * (n:Int)+100 * (u:Int)) q.1) ⟨c16,t16.up (by omega) (by omega)⟩ ?_) fun q hq=>⟨hq.1.up (by simp),hq.2.up (by omega) (by simp)⟩) fun q29 ⟨c29,t29⟩=>Kbp ⟨c29.up (by omega),t29.up (by omega) (by omega)⟩
   intro u x28 s27 hx2 ⟨c27,t27⟩
   have hu:u<3:=by have:=(gEs.1 hx2).1;simpa using this
   have hx28:x28.length≤1000:=by
    have:=mOg hx2
    simp only[List.mem_cons,List.not_mem_nil,or_false] at this
    rcases this with e | e | e<;>simp[e]
   refine Kbq (Ksy t27 4 hl (by omega) (by omega) (by omega)) fun y37 t37=>?_
   refine Kbt (fun _=>Kbp ⟨c27.up (by omega),t37.up (by omega) (by omega)⟩) (fun _=>?_)
   refine Kbq (P:=fun q:Kwz×Kxb=>ClS q.2∧At l 0 (b+1+1000 * (j:Int)+350 * (n:Int)+100 * (u:Int)+2) q.1) ?_ fun q41 ⟨c41,t41⟩=>?_
   ·refine Kbt (fun _=>?_) (fun _=>Kbt (fun _=>?_) (fun _=>?_))
    ·refine Kbq (Ksx t37 2 hl (by omega) (by omega) (by omega)) fun y44 ⟨_,_,t44⟩=>Kbp ⟨⟨hx17,hx28,by simp[AtS]⟩,t44.up (by omega) (by omega)⟩
    ·refine Kbq (Kta t37 _ hl (by omega) (by simp) (by simp)) fun y48 ⟨m48,t48⟩=>Kbp ⟨⟨hx17,hx28,?_⟩,t48.up (by omega) (by omega)⟩
     simp only[List.mem_cons,List.not_mem_nil,or_false] at m48
     rcases m48 with e | e | e<;>simp[AtS,e]
    ·refine Kbq (Ksz t37 _ hl (by omega) (by simp) (by simp)) fun y51 ⟨_,t51⟩=>Kbp ⟨⟨hx17,hx28,by simp[AtS]⟩,t51.up (by omega) (by omega)⟩
   ·refine Kbq (Ksy t41 15 hl (by omega) (by omega) (by omega)) fun y53 t53=>?_
    refine Kbq (P:=fun q:Kwz×Kxb=>ClS q.2∧At l 0 (b+1+1000 * (j:Int)+350 * (n:Int)+100 * (u:Int)+30) q.1) ?_ fun q55 ⟨c55,t55⟩=>?_
    ·refine Kbt (fun _=>?_) (fun _=>Kbp ⟨c41,t53.up (by omega) (by omega)⟩)
     refine Kbq (Ktc t53 hl (by omega)) fun y58 ⟨a58,t58⟩=>Kbp ⟨⟨c41.1,c41.2.1,a58⟩,t58.up (by omega) (by omega)⟩
    ·have hc27:=c27.1
     refine Kby (by rw[List.length_singleton];omega) (Kbp ⟨Kte c27 c55,t55.up (by omega) (by push_cast;omega)⟩)
  ·refine Kbq (Ksz t18 _ hl (by omega) (by simp) (by simp)) fun y63 ⟨_,t63⟩=>Kbp ⟨c18.up (by omega),t63.up (by omega) (by push_cast;omega)⟩
 ·refine Kbq (Ksy t6 20 hl (by omega) (by omega) (by omega)) fun y65 t65=>?_
  refine Kbq (P:=fun q:Kwz×(List Kxb)=>Cls (6 * many+1) q.2∧At l 0 (b+5000) q.1) ?_ fun q67 ⟨c67,t67⟩=>Kbp ⟨c67,t67⟩
  refine Kbt (fun _=>?_) (fun _=>Kbp ⟨c6.up (by omega),t65.up (by omega) (by omega)⟩)
  refine Kbq (Kce t65 0 1000 hl (by omega) (by omega) (by omega) (by omega) (by omega)) fun y70 t70=>?_
  refine Kbq (Kta t70 _ hl (by omega) (by simp) (by simp)) fun y72 ⟨m72,t72⟩=>?_
  refine Kbq (Kta t72 _ hl (by omega) (by simp) (by simp)) fun y74 ⟨m74,t74⟩=>?_
  refine Kbq (Ktc t74 hl (by omega)) fun y76 ⟨a76,t76⟩=>?_
  have hc6:=c6.1
  refine Kby (by rw[List.length_singleton];omega) (Kbp ⟨Kte c6 ⟨?_,?_,a76⟩,t76.up (by omega) (by omega)⟩)
  ·simp only[List.mem_cons,List.not_mem_nil,or_false] at m72
   rcases m72 with e | e<;>simp[e]
  ·simp only[List.mem_cons,List.not_mem_nil,or_false] at m74
   rcases m74 with e | e<;>simp[e]
theorem Ktg{l:List Int}{b:Int}{s:Kwz}(h:At l 0 b s)(hl:l.length≤9223372036854775807)(h1:b<3000000000000000000) :
  Ok (Kxt s) fun r=>At l 0 (b+20) r.2:=by
 unfold Kxt
 refine Kbq (Ksz h _ hl (by omega) (by simp) (by simp)) fun y1 ⟨_,t1⟩=>?_
 exact Kbq (Ksz t1 _ hl (by omega) (by simp) (by simp)) fun y3 ⟨_,t3⟩=>Kbp (t3.up (by omega) (by omega))
theorem Kth{l:List Int}{b:Int}{s:Kwz}(h:At l 0 b s)(hl:l.length≤9223372036854775807)(h1:b<3000000000000000000) :
  Ok (Kxu s) fun r=>At l 0 (b+20) r.2:=by
 unfold Kxu
 refine Kbq (Ksx h 300 hl (by omega) (by omega) (by omega)) fun y1 ⟨_,_,t1⟩=>?_
 refine Kbq (Ksx t1 300 hl (by omega) (by omega) (by omega)) fun y3 ⟨_,_,t3⟩=>?_
 refine Kbq (Ksz t3 _ hl (by omega) (by simp) (by simp)) fun y5 ⟨_,t5⟩=>?_
 exact Kbq (Ksz t5 _ hl (by omega) (by simp) (by simp)) fun y7 ⟨_,t7⟩=>Kbp (t7.up (by omega) (by omega))
end Go.Gk
