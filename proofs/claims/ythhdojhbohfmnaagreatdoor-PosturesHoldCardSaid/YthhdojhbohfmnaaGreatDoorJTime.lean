import Derived.Test.YthhdojhbohfmnaaGreatDoorJJudge
import Derived.Test.YthhdojhbohfmnaaGreatDoorJCompact
set_option linter.all false
set_option maxRecDepth 100000
namespace Go.Gk
def Ats(l:List Kyh):Prop:=∀ c∈l,0≤c.At∧c.At<345686400
theorem Ktg{k:Nat}{l:List Kyh}(h:∀ j x,l[j]?=some x→chkE k l (0+j) x=0):Ats l:=fun c hc=>by
 obtain⟨j,hj⟩:=List.getElem?_of_mem hc
 exact Kuz (h j c hj)
def MomN(l:List Kyh)(fresh:Int)(node:Str)(t:Int):Prop:=∃ c∈l,c.Node=node∧(t=c.At∨t=c.At+fresh)
theorem Kth(node name:Str){fresh t:Int}(hf:1≤fresh∧fresh≤345686400):∀ L:List Kyh,Ats L→(∀ c∈L,c.Node=node→c.At≠t∧c.At+fresh≠t)→
  kGo (kHit node name t) fresh t L=kGo (kHit node name (t - 1)) fresh (t - 1) L
 | [],_,_=>rfl
 | c :: L,ha,hn=>by
  have ih:=Kth node name hf L (fun x hx=>ha x (mCo _ hx)) (fun x hx=>hn x (mCo _ hx))
  have hc:=ha c mCs
  have hw:wi (c.At+fresh)=c.At+fresh:=Kwv (by omega) (by omega)
  simp only[kGo,hw]
  by_cases hN:c.Node=node
  ·obtain⟨n1,n2⟩:=hn c mCs hN
   have hh:kHit node name t c=kHit node name (t - 1) c:=by
    unfold kHit
    rw[show decide (c.At≤t)=decide (c.At≤t - 1) from decide_eq_decide.2 (by omega)]
   rw[hh,ih]
   cases kHit node name (t - 1) c with
   | false=>rfl
   | true=>
    simp only[if_true]
    by_cases h:t<c.At+fresh
    ·rw[if_pos h,if_pos (by omega)]
    ·rw[if_neg h,if_neg (by omega)]
  ·have h0:∀ z,kHit node name z c=false:=fun z=>by unfold kHit;simp[hN]
   rw[h0,h0,ih]
   simp only[Bool.false_eq_true,if_false]
theorem Kti{l:List Kyh}{fresh:Int}(hf:1≤fresh∧fresh≤345686400)(ha:Ats l){node:Str}{t:Int}(hn:¬ MomN l fresh node t)(name:Str) :
  Lcu l fresh node name t=Lcu l fresh node name (t - 1):=by
 unfold Lcu
 rw[Kth node name hf l.reverse (fun c hc=>ha c (List.mem_reverse.1 hc)) fun c hc hN=>⟨fun e=>hn ⟨c,List.mem_reverse.1 hc,hN,.inl e.symm⟩,fun e=>hn ⟨c,List.mem_reverse.1 hc,hN,.inr e.symm⟩⟩]
theorem Ktj{l:List Kyh}{fresh:Int}(hf:1≤fresh∧fresh≤345686400)(ha:Ats l){node:Str}{t:Int}(hn:¬ MomN l fresh node t)(c:CC):lv l fresh node t c=lv l fresh node (t - 1) c:=by
 unfold lv Lcw
 rw[Kti hf ha hn]
def Vd(l:List Kyh)(fresh:Int)(node:Str)(t:Int)(c:CC):Int:=c.sh.ev (c.lf.map (lv l fresh node t))
theorem Ktk{l:List Kyh}{fresh:Int}(hf:1≤fresh∧fresh≤345686400)(ha:Ats l){node:Str}{t:Int}(hn:¬ MomN l fresh node t)(c:CC):Vd l fresh node t c=Vd l fresh node (t - 1) c:=by
 unfold Vd
 congr 1
 exact List.map_congr_left fun x _=>Ktj hf ha hn x
theorem Ktl{α:Type}[DecidableEq α]{f:Nat→α→Unit→Option (LS Unit Bool)}{a b:List α}(hf:∀ i x y,b[i]?=some y→f i x ()=some (if x=y then .go () else .out false)) :
  (bif ((a.length:Int):Int) != (b.length:Int) then(some false) else(bi (rangeM f 0 a ()) fun q=>goI q fun a8=>some true))=some (decide (a=b)):=by
 by_cases hl:a.length=b.length
 ·rw[show(((a.length:Int):Int) != (b.length:Int))=false by simp[hl],cond_false]
  have key:∀ (l l':List α) (i:Nat),l.length=l'.length→(∀ j y,l'[j]?=some y→b[i+j]?=some y)→rangeM f i l ()=some (if l=l' then .go () else .out false):=by
   intro l
   induction l with
   | nil=>
    intro l' i h1 h2
    cases l' with
    | nil=>rfl
    | cons y r=>simp at h1
   | cons x l ih=>
    intro l' i h1 h2
    cases l' with
    | nil=>simp at h1
    | cons y r=>
     have hy:=h2 0 y rfl
     rw[Nat.add_zero] at hy
     simp only[rangeM,hf i x y hy]
     by_cases e:x=y
     ·subst e
      rw[if_pos rfl]
      simp only
      rw[ih r (i+1) (by simpa using h1) fun j z hz=>by rw[show i+1+j=i+(j+1) by omega];exact h2 (j+1) z (by simpa using hz)]
      by_cases e2:l=r
      ·rw[if_pos e2,if_pos (by rw[e2])]
      ·rw[if_neg e2,if_neg (by simpa using e2)]
     ·rw[if_neg e,if_neg (by intro e2;injection e2;contradiction)]
  rw[key a b 0 hl fun j y hy=>by rw[Nat.zero_add];exact hy]
  by_cases e:a=b
  ·rw[if_pos e,dT e];rfl
  ·rw[if_neg e,dF e];rfl
 ·rw[show(((a.length:Int):Int) != (b.length:Int))=true by simp;omega,cond_true,dF fun e=>hl (by rw[e])]
theorem Lig(a b:List Kyk):Ldd a b=some (decide (a=b)):=by
 unfold Ldd
 refine Ktl (a:=a) (b:=b) fun i x y hy=>?_
 rw[Kxk hy,bi_some]
 by_cases e:x=y
 ·subst e;rw[if_pos rfl];simp
 rw[if_neg e,show(((x.Node:Str)==y.Node)&&(((x.Posture:Str)==y.Posture)&&true))=false by
  rw[←Bool.not_eq_true]
  intro h
  simp only[Bool.and_true,Bool.and_eq_true,beq_iff_eq] at h
  exact e (by cases x;cases y;simp_all)]
 rfl
theorem Lih(a b:List Str):Lba a b=some (decide (a=b)):=by
 unfold Lba
 refine Ktl (a:=a) (b:=b) fun i x y hy=>?_
 rw[Kxk hy,bi_some]
 by_cases e:x=y
 ·subst e;rw[if_pos rfl];simp
 rw[if_neg e,show((x:Str)==y)=false by simpa using e];rfl
abbrev PC:=Str×CC
def PC.t(x:PC):Kyg:=⟨x.1,x.2.t⟩
def PCs(k:Nat)(P:List PC):Prop:=P.length≤100∧∀ x∈P,x.2.WF∧x.2.dp<k∧x.2.lf.length≤1000000
def metL(l:List Kyh)(fresh:Int)(P:List PC)(node:Str)(t:Int):List Str:=(P.filter fun x=>decide (Vd l fresh node t x.2=1)).map (·.1)
def factL(l:List Kyh)(fresh:Int)(P:List PC)(nodes:List Str)(t:Int):List Kyk:=nodes.flatMap fun n=>(metL l fresh P n t).map fun k=>⟨n,k⟩
theorem Ktm(l:List Kyh)(fresh:Int)(P:List PC)(node:Str)(t:Int):(metL l fresh P node t).length≤P.length:=by
 unfold metL
 rw[List.length_map]
 exact List.length_filter_le _ _
theorem Ktn(l:List Kyh)(fresh:Int)(P:List PC)(t:Int):∀ nodes:List Str,(factL l fresh P nodes t).length≤nodes.length * P.length
 | []=>by simp[factL]
 | n :: r=>by
  have h1:=Ktn l fresh P t r
  have h2:=Ktm l fresh P n t
  unfold factL at h1 ⊢
  rw[List.flatMap_cons,List.length_append,List.length_map,List.length_cons,Nat.add_mul,Nat.one_mul]
  omega
theorem Kto{l:List Kyh}{fresh:Int}(hf:1≤fresh∧fresh≤345686400)(ha:Ats l){node:Str}{t:Int}(hn:¬ MomN l fresh node t)(P:List PC):metL l fresh P node t=metL l fresh P node (t - 1):=by
 unfold metL
 congr 1
 exact List.filter_congr fun x _=>by rw[Ktk hf ha hn]
section
variable{m:List (Kyi×(Tl Kyh))}{al:List Bool}{l:List Kyh}(hI:InvR al m l)(hl:l.length≤900)(fresh:Int){k:Nat}
include hI hl
theorem Ktp{P:List PC}(hP:PCs k P)(node:Str)(t:Int):Lav k ⟨fresh,m⟩ (P.map PC.t) node t=some (metL l fresh P node t):=by
 unfold Lav
 have loop:∀ (L:List PC) (i:Nat) (acc:List Str),(∀ x∈L,x.2.WF∧x.2.dp<k∧x.2.lf.length≤1000000)→acc.length+L.length≤1000000→
   rangeF (σ:=List Str) (fun i1 x3 s2=>bi (Lau k ⟨fresh,m⟩ x3.Cond node t) fun y12=>bif (y12:Int)==1 then(bi (apd s2 [x3.Key]) fun y15=>some y15) else(some s2)) i (L.map PC.t) acc=some (acc++metL l fresh L node t):=by
  intro L
  induction L with
  | nil=>intro i acc _ _;simp[rangeF,metL]
  | cons x L ih=>
   intro i acc hx hb
   simp only[List.length_cons] at hb
   obtain⟨h1,h2,h3⟩:=hx x mCs
   have hJ:Lau k ⟨fresh,m⟩ x.t.Cond node t=some (Vd l fresh node t x.2):=Kse hI hl fresh node t k x.2 h1 h2 h3
   simp only[List.map_cons,rangeF]
   rw[hJ,bi_some]
   by_cases hv:Vd l fresh node t x.2=1
   ·rw[show((Vd l fresh node t x.2:Int)==1)=true by simpa using hv,cond_true,Kxb (by simp;omega),bi_some,bi_some,ih (i+1) _ (fun y hy=>hx y (mCo _ hy)) (by simp;omega)]
    unfold metL
    rw[List.filter_cons,if_pos (by simpa using hv)]
    simp[PC.t]
   ·rw[show((Vd l fresh node t x.2:Int)==1)=false by simpa using hv,cond_false,bi_some,ih (i+1) _ (fun y hy=>hx y (mCo _ hy)) (by omega)]
    unfold metL
    rw[List.filter_cons,if_neg (by simpa using hv)]
 rw[loop P 0 [] hP.2 (by have:=hP.1;simp;omega)]
 simp
theorem Ktq{P:List PC}(hP:PCs k P)(nodes:List Str)(hn:nodes.length≤1000)(t:Int):Ldc k (P.map PC.t) l fresh nodes t=some (factL l fresh P nodes t):=by
 unfold Ldc
 have inner:∀ (node:Str) (L:List PC) (i:Nat) (acc:List Kyk),(∀ x∈L,x.2.WF∧x.2.dp<k∧x.2.lf.length≤1000000)→acc.length+L.length≤1000000→
   rangeF (σ:=List Kyk) (fun i12 x14 s13=>bi (Ldb k x14.Cond l fresh node t) fun y23=>bif (y23:Int)==1 then(bi (apd s13 [(⟨node,x14.Key⟩:Kyk)]) fun y26=>some y26) else(some s13)) i (L.map PC.t) acc=some (acc++(metL l fresh L node t).map fun k=>⟨node,k⟩):=by
  intro node L
  induction L with
  | nil=>intro i acc _ _;simp[rangeF,metL]
  | cons x L ih=>
   intro i acc hx hb
   simp only[List.length_cons] at hb
   obtain⟨h1,h2,h3⟩:=hx x mCs
   have hJ:Ldb k x.t.Cond l fresh node t=some (Vd l fresh node t x.2):=Ksc hI hl fresh node t k x.2 h1 h2 h3
   simp only[List.map_cons,rangeF]
   rw[hJ,bi_some]
   by_cases hv:Vd l fresh node t x.2=1
   ·rw[show((Vd l fresh node t x.2:Int)==1)=true by simpa using hv,cond_true,Kxb (by simp;omega),bi_some,bi_some,ih (i+1) _ (fun y hy=>hx y (mCo _ hy)) (by simp;omega)]
    unfold metL
    rw[List.filter_cons,if_pos (by simpa using hv)]
    simp[PC.t]
   ·rw[show((Vd l fresh node t x.2:Int)==1)=false by simpa using hv,cond_false,bi_some,ih (i+1) _ (fun y hy=>hx y (mCo _ hy)) (by omega)]
    unfold metL
    rw[List.filter_cons,if_neg (by simpa using hv)]
 have outer:∀ (N:List Str) (i:Nat) (acc:List Kyk),acc.length+N.length * 100≤1000000→
   rangeF (σ:=List Kyk) (fun i1 x3 s2=>bi (rangeF (σ:=List Kyk) (fun i12 x14 s13=>bi (Ldb k x14.Cond l fresh x3 t) fun y23=>bif (y23:Int)==1 then(bi (apd s13 [(⟨x3,x14.Key⟩:Kyk)]) fun y26=>some y26) else(some s13)) 0 (P.map PC.t) s2) fun q15=>some q15) i N acc=some (acc++factL l fresh P N t):=by
  intro N
  induction N with
  | nil=>intro i acc _;simp[rangeF,factL]
  | cons n N ih=>
   intro i acc hb
   simp only[List.length_cons,Nat.add_mul,Nat.one_mul] at hb
   have h1:=hP.1
   simp only[rangeF]
   rw[inner n P 0 acc hP.2 (by omega),bi_some,bi_some,ih (i+1) _ (by have:=Ktm l fresh P n t;simp;omega)]
   unfold factL
   simp
 rw[outer nodes 0 [] (by simp;omega)]
 simp
theorem Ktr{P:List PC}(hP:PCs k P)(nodes:List Str)(hn:nodes.length≤1000)(t:Int) :
  rangeF (σ:=List Kyk) (fun i7 x9 s8=>bi (Lav k ⟨fresh,m⟩ (P.map PC.t) x9 t) fun y18=>bi (rangeF (σ:=List Kyk) (fun i20 x22 s21=>bi (apd s21 [(⟨x9,x22⟩:Kyk)]) fun y31=>some y31) 0 y18 s8) fun q23=>some q23) 0 nodes ([]:List Kyk)=some (factL l fresh P nodes t):=by
 have inner:∀ (node:Str) (L:List Str) (i:Nat) (acc:List Kyk),acc.length+L.length≤1000000→
   rangeF (σ:=List Kyk) (fun i20 x22 s21=>bi (apd s21 [(⟨node,x22⟩:Kyk)]) fun y31=>some y31) i L acc=some (acc++L.map fun k=>⟨node,k⟩):=by
  intro node L
  induction L with
  | nil=>intro i acc _;simp[rangeF]
  | cons x L ih=>
   intro i acc hb
   simp only[List.length_cons] at hb
   simp only[rangeF]
   rw[Kxb (by simp;omega),bi_some,bi_some,ih (i+1) _ (by simp;omega)]
   simp
 have outer:∀ (N:List Str) (i:Nat) (acc:List Kyk),acc.length+N.length * 100≤1000000→
   rangeF (σ:=List Kyk) (fun i7 x9 s8=>bi (Lav k ⟨fresh,m⟩ (P.map PC.t) x9 t) fun y18=>bi (rangeF (σ:=List Kyk) (fun i20 x22 s21=>bi (apd s21 [(⟨x9,x22⟩:Kyk)]) fun y31=>some y31) 0 y18 s8) fun q23=>some q23) i N acc=some (acc++factL l fresh P N t):=by
  intro N
  induction N with
  | nil=>intro i acc _;simp[rangeF,factL]
  | cons n N ih=>
   intro i acc hb
   simp only[List.length_cons,Nat.add_mul,Nat.one_mul] at hb
   have h1:=hP.1
   have h2:=Ktm l fresh P n t
   simp only[rangeF]
   rw[Ktp hI hl fresh hP n t,bi_some,inner n _ 0 acc (by omega),bi_some,bi_some,ih (i+1) _ (by simp;omega)]
   unfold factL
   simp
 rw[outer nodes 0 [] (by simp;omega)]
 simp
end
end Go.Gk
namespace Go.Gk
theorem wi_c{c:Kyh}{fresh:Int}(hf:1≤fresh∧fresh≤345686400)(hc:0≤c.At∧c.At<345686400):wi (c.At+fresh)=c.At+fresh:=Kwv (by omega) (by omega)
theorem Ksk{l:List Kyh}{fresh:Int}(hf:1≤fresh∧fresh≤345686400)(ha:Ats l)(hl:l.length≤900)(node:Str){k:Nat}(hk:3000≤k) :
  ∃ M,Laz k l fresh node=some M∧∀ t,t∈M ↔ MomN l fresh node t:=by
 have loop:∀ (L:List Kyh) (i:Nat) (acc:List Int),Ats L→acc.length+2 * L.length≤1900→
   ∃ R,rangeF (σ:=List Int) (fun i1 x3 s2=>bif (x3.Node:Str)==node then(bi (apd s2 [x3.At,wi (x3.At+fresh)]) fun y13=>some y13) else(some s2)) i L acc=some R∧R.length≤acc.length+2 * L.length∧∀ t,t∈R ↔ t∈acc∨MomN L fresh node t:=by
  intro L
  induction L with
  | nil=>intro i acc _ _;exact⟨acc,rfl,by simp,fun t=>by simp[MomN]⟩
  | cons c L ih=>
   intro i acc h hb
   simp only[List.length_cons] at hb
   have hc:=h c mCs
   have hL:Ats L:=fun x hx=>h x (mCo _ hx)
   simp only[rangeF]
   by_cases hN:c.Node=node
   ·rw[show((c.Node:Str)==node)=true by simpa using hN,cond_true,Kxb (by simp;omega),bi_some,bi_some,wi_c hf hc]
    obtain⟨R,h1,h2,h3⟩:=ih (i+1) (acc++[c.At,c.At+fresh]) hL (by simp;omega)
    refine⟨R,h1,by simp at h2 ⊢;omega,fun t=>?_⟩
    rw[h3]
    simp only[List.mem_append,List.mem_cons,List.not_mem_nil,or_false,MomN,exists_eq_or_imp,or_assoc]
    constructor
    ·rintro(h | h | h | h)
     ·exact .inl h
     ·exact .inr (.inl ⟨hN,.inl h⟩)
     ·exact .inr (.inl ⟨hN,.inr h⟩)
     ·exact .inr (.inr h)
    ·rintro(h | ⟨_,h | h⟩ | h)
     ·exact .inl h
     ·exact .inr (.inl h)
     ·exact .inr (.inr (.inl h))
     ·exact .inr (.inr (.inr h))
   ·rw[show((c.Node:Str)==node)=false by simpa using hN,cond_false,bi_some]
    obtain⟨R,h1,h2,h3⟩:=ih (i+1) acc hL (by omega)
    refine⟨R,h1,by simp;omega,fun t=>?_⟩
    rw[h3]
    simp only[MomN,List.mem_cons,exists_eq_or_imp]
    constructor
    ·rintro(h | h)
     ·exact .inl h
     ·exact .inr (.inr h)
    ·rintro(h | ⟨h,_⟩ | h)
     ·exact .inl h
     ·exact absurd h hN
     ·exact .inr h
 obtain⟨R,h1,h2,h3⟩:=loop l 0 [] ha (by simp;omega)
 simp only[List.length_nil] at h2
 obtain⟨r1,r2⟩:=Kqj k R (by omega) (by omega)
 refine⟨rise R,?_,fun t=>by rw[Kqi,h3];simp⟩
 unfold Laz
 rw[h1,bi_some,r1,bi_some,show decide ((R.mergeSort fun x y=>decide (x≤y)).length=R.length)=true by simp]
 show bi (Lax k _) _=_
 rw[r2,bi_some]
def MomA(l:List Kyh)(fresh:Int)(t:Int):Prop:=t=0∨t=345686400∨∃ c∈l,t=c.At∨t=if 345686400<c.At+fresh then 345686400 else c.At+fresh
theorem Ksl{l:List Kyh}{fresh:Int}(hf:1≤fresh∧fresh≤345686400)(ha:Ats l)(hl:l.length≤900){k:Nat}(hk:3000≤k) :
  ∃ M,Lcs k l fresh=some M∧M.Pairwise (· < ·)∧M.length≤2000∧∀ t,t∈M ↔ MomA l fresh t:=by
 have loop:∀ (L:List Kyh) (i:Nat) (acc:List Int),Ats L→acc.length+2 * L.length≤1900→
   ∃ R,rangeF (σ:=List Int) (fun i1 x3 s2=>bi (apd s2 [x3.At,(if 345686400<(wi (x3.At+fresh)) then 345686400 else wi (x3.At+fresh))]) fun y12=>some y12) i L acc=some R∧R.length≤acc.length+2 * L.length∧∀ t,t∈R ↔ t∈acc∨∃ c∈L,t=c.At∨t=if 345686400<c.At+fresh then 345686400 else c.At+fresh:=by
  intro L
  induction L with
  | nil=>intro i acc _ _;exact⟨acc,rfl,by simp,fun t=>by simp⟩
  | cons c L ih=>
   intro i acc h hb
   simp only[List.length_cons] at hb
   have hc:=h c mCs
   have hL:Ats L:=fun x hx=>h x (mCo _ hx)
   simp only[rangeF]
   rw[Kxb (by simp;omega),bi_some,bi_some,wi_c hf hc]
   obtain⟨R,h1,h2,h3⟩:=ih (i+1) (acc++[c.At,if 345686400<c.At+fresh then 345686400 else c.At+fresh]) hL (by simp;omega)
   refine⟨R,h1,by simp at h2 ⊢;omega,fun t=>?_⟩
   rw[h3]
   simp only[List.mem_append,List.mem_cons,List.not_mem_nil,or_false,exists_eq_or_imp,or_assoc]
 obtain⟨R,h1,h2,h3⟩:=loop l 0 [0,345686400] ha (by simp;omega)
 simp only[List.length_cons,List.length_nil] at h2
 obtain⟨r1,r2⟩:=Kqj k R (by omega) (by omega)
 refine⟨rise R,?_,Kqh R,?_,fun t=>by rw[Kqi,h3];simp[MomA,or_assoc]⟩
 ·unfold Lcs
  rw[h1,bi_some,r1,bi_some,show decide ((R.mergeSort fun x y=>decide (x≤y)).length=R.length)=true by simp]
  show bi (Lax k _) _=_
  rw[r2,bi_some]
 ·unfold rise
  refine Nat.le_trans (Kqc _ _) ?_
  omega
theorem Ksm(l:List Kyh)(fresh:Int)(P:List PC)(t:Int)(n:Str):∀ N:List Str,N.Nodup→((factL l fresh P N t).filter fun f=>decide (f.Node=n)).map (·.Posture)=if n∈N then metL l fresh P n t else[]
 | [],_=>rfl
 | a :: N,h=>by
  obtain⟨h1,h2⟩:=List.nodup_cons.1 h
  have ih:=Ksm l fresh P t n N h2
  unfold factL at ih ⊢
  rw[List.flatMap_cons,List.filter_append,List.map_append,ih]
  by_cases e:a=n
  ·subst e
   rw[if_neg h1,if_pos mCs,List.append_nil,List.filter_eq_self.2 (fun f hf=>by obtain⟨k,_,rfl⟩:=List.mem_map.1 hf;simp),List.map_map]
   exact(List.map_congr_left fun x _=>rfl).trans (List.map_id _)
  rw[List.filter_eq_nil_iff.2 (fun f hf=>by obtain⟨k,_,rfl⟩:=List.mem_map.1 hf;simpa using e),List.map_nil,List.nil_append]
  by_cases hn:n∈N
  ·rw[if_pos hn,if_pos (mCo _ hn)]
  rw[if_neg hn,if_neg (fun hm=>(List.mem_cons.1 hm).elim (fun q=>e q.symm) hn)]
theorem Ksn(l:List Kyh)(fresh:Int)(P:List PC){N:List Str}(hN:N.Nodup)(t t':Int):factL l fresh P N t≠factL l fresh P N t' ↔ ∃ n∈N,metL l fresh P n t≠metL l fresh P n t':=by
 constructor
 ·intro h
  refine Classical.byContradiction fun hn=>h ?_
  unfold factL
  have:∀ n∈N,metL l fresh P n t=metL l fresh P n t':=fun n hm=>Classical.byContradiction fun e=>hn ⟨n,hm,e⟩
  clear h hn hN
  induction N with
  | nil=>rfl
  | cons a N ih=>
   rw[List.flatMap_cons,List.flatMap_cons,this a mCs,ih fun n hm=>this n (mCo _ hm)]
 rintro⟨n,hm,hne⟩ e
 have h1:=Ksm l fresh P t n N hN
 have h2:=Ksm l fresh P t' n N hN
 rw[e,h2,if_pos hm,if_pos hm] at h1
 exact hne h1.symm
def InvN(S:Int→Prop)(s:Int×Bool):Prop:=(s.2=false→s.1=345686400∧∀ t,¬ S t)∧(s.2=true→S s.1∧∀ t,S t→s.1≤t)
theorem Kso{S S':Int→Prop}{s:Int×Bool}(h:InvN S s)(hs:∀ t,S t→S' t)(hb:∀ t,S' t→t<345686400)(hn:∀ t,S' t→S t∨s.1≤t):InvN S' s:=
 ⟨fun e=>⟨(h.1 e).1,fun t ht=>(hn t ht).elim ((h.1 e).2 t) fun h2=>by have:=(h.1 e).1;have:=hb t ht;omega⟩,fun e=>⟨hs _ (h.2 e).1,fun t ht=>(hn t ht).elim ((h.2 e).2 t) id⟩⟩
theorem Ksp{α:Type}{f:Nat→α→Int×Bool→Option (Int×Bool)}{R:α→Int→Prop}(hR:∀ x t,R x t→t<345686400):∀ (L:List α) (i:Nat) (S:Int→Prop) (s:Int×Bool),(∀ t,S t→t<345686400)→InvN S s→
  (∀ x∈L,∀ i (S:Int→Prop) s,(∀ t,S t→t<345686400)→InvN S s→∃ s',f i x s=some s'∧InvN (fun t=>S t∨R x t) s')→∃ s',rangeF f i L s=some s'∧InvN (fun t=>S t∨∃ x∈L,R x t) s'
 | [],i,S,s,_,h,_=>⟨s,rfl,by
   have e:(fun t=>S t∨∃ x∈([]:List α),R x t)=S:=by funext t;simp
   rw[e];exact h⟩
 | x :: L,i,S,s,hS,h,hf=>by
  obtain⟨s1,h1,h2⟩:=hf x mCs i S s hS h
  obtain⟨s2,h3,h4⟩:=Ksp hR L (i+1) (fun t=>S t∨R x t) s1 (fun t ht=>ht.elim (hS t) (hR x t)) h2 fun y hy=>hf y (mCo _ hy)
  refine⟨s2,by simp only[rangeF,h1,bi_some,h3],?_⟩
  have e:(fun t=>(S t∨R x t)∨∃ y∈L,R y t)=fun t=>S t∨∃ y∈x :: L,R y t:=by
   funext t
   simp only[List.mem_cons,exists_eq_or_imp,or_assoc]
  rw[←e];exact h4
section
variable{m:List (Kyi×(Tl Kyh))}{al:List Bool}{l:List Kyh}(hI:InvR al m l)(hl:l.length≤900)(fresh:Int){k:Nat}(hk:3000≤k)(hf:1≤fresh∧fresh≤345686400)(ha:Ats l)
include hI hl hk hf ha
def ChgN(l:List Kyh)(fresh:Int)(P:List PC)(z:Int)(n:Str)(t:Int):Prop:=MomN l fresh n t∧z<t∧t<345686400∧metL l fresh P n t≠metL l fresh P n (t - 1)
theorem Ksq{P:List PC}(hP:PCs k P)(nodes:List Str)(z:Int)(hz:0≤z) :
  ∃ s,rangeF (σ:=Int×Bool) (fun i7 x9 s8=>bi (Laz k l fresh x9) fun y18=>bi (rangeF (σ:=Int×Bool) (fun i20 x22 s21=>bi (bif ((decide ((x22:Int)>z))&&(decide ((x22:Int)<s21.1))) then(bi (Lav k ⟨fresh,m⟩ (P.map PC.t) x9 x22) fun y34=>bi (Lav k ⟨fresh,m⟩ (P.map PC.t) x9 (wi (x22 - 1))) fun y36=>bi (Lba y34 y36) fun y38=>some (!y38)) else(some false)) fun q31=>bif q31 then(some (x22,true)) else(some (s21.1,s21.2))) 0 y18 (s8.1,s8.2)) fun q23=>some (q23.1,q23.2)) 0 nodes (345686400,false)=some s∧InvN (fun t=>∃ n∈nodes,ChgN l fresh P z n t) s:=by
 have h0:InvN (fun _=>False) ((345686400:Int),false):=⟨fun _=>⟨rfl,fun _ h=>h⟩,fun h=>by cases h⟩
 obtain⟨s,h1,h2⟩:=Ksp (f:=fun i7 x9 s8=>bi (Laz k l fresh x9) fun y18=>bi (rangeF (σ:=Int×Bool) (fun i20 x22 s21=>bi (bif ((decide ((x22:Int)>z))&&(decide ((x22:Int)<s21.1))) then(bi (Lav k ⟨fresh,m⟩ (P.map PC.t) x9 x22) fun y34=>bi (Lav k ⟨fresh,m⟩ (P.map PC.t) x9 (wi (x22 - 1))) fun y36=>bi (Lba y34 y36) fun y38=>some (!y38)) else(some false)) fun q31=>bif q31 then(some (x22,true)) else(some (s21.1,s21.2))) 0 y18 (s8.1,s8.2)) fun q23=>some (q23.1,q23.2))
  (R:=ChgN l fresh P z) (fun n t h=>h.2.2.1) nodes 0 (fun _=>False) (345686400,false) (fun _ h=>h.elim) h0 (fun n _ i S s hS hs=>by
   obtain⟨M,m1,m2⟩:=Ksk hf ha hl n hk
   obtain⟨s',h1,h2⟩:=Ksp (f:=fun i20 x22 s21=>bi (bif ((decide ((x22:Int)>z))&&(decide ((x22:Int)<s21.1))) then(bi (Lav k ⟨fresh,m⟩ (P.map PC.t) n x22) fun y34=>bi (Lav k ⟨fresh,m⟩ (P.map PC.t) n (wi (x22 - 1))) fun y36=>bi (Lba y34 y36) fun y38=>some (!y38)) else(some false)) fun q31=>bif q31 then(some (x22,true)) else(some (s21.1,s21.2)))
    (R:=fun x t=>t=x∧ChgN l fresh P z n t) (fun x t h=>h.2.2.2.1) M 0 S (s.1,s.2) hS hs (fun x hx i S s hS hs=>by
     have hx':=(m2 x).1 hx
     have hxb : -9223372036854775808≤x - 1∧x - 1≤9223372036854775807:=by
      obtain⟨c,hc,_,h⟩:=hx'
      have:=ha c hc
      omega
     by_cases hc:z<x∧x<s.1
     ·rw[dT (show x>z from hc.1),dT hc.2,Bool.and_true,cond_true,Ktp hI hl fresh hP,bi_some,Kwv hxb.1 hxb.2,Ktp hI hl fresh hP,bi_some,Lih,bi_some,bi_some]
      by_cases he:metL l fresh P n x=metL l fresh P n (x - 1)
      ·rw[dT he,Bool.not_true,cond_false]
       refine⟨_,rfl,Kso hs (fun t h=>.inl h) (fun t h=>h.elim (hS t) fun h=>h.2.2.2.1) fun t h=>h.elim .inl fun hq=>?_⟩
       obtain⟨e1,hC⟩:=hq
       rw[e1] at hC
       exact absurd he hC.2.2.2
      ·rw[dF he,Bool.not_false,cond_true]
       have hlt:x<345686400:=by
        cases hb:s.2 with
        | false=>have:=(hs.1 hb).1;omega
        | true=>have:=hS _ (hs.2 hb).1;omega
       refine⟨_,rfl,(fun h=>by cases h),fun _=>⟨.inr ⟨rfl,hx',hc.1,hlt,he⟩,fun t h=>h.elim (fun h=>?_) fun h=>by rw[h.1];exact Int.le_refl _⟩⟩
       cases hb:s.2 with
       | false=>exact absurd h ((hs.1 hb).2 t)
       | true=>have:=(hs.2 hb).2 t h;simp only;omega
     ·have hb:((decide ((x:Int)>z))&&(decide ((x:Int)<s.1)))=false:=by
       rw[←Bool.not_eq_true]
       simpa using hc
      rw[hb,cond_false,bi_some,cond_false]
      refine⟨_,rfl,Kso hs (fun t h=>.inl h) (fun t h=>h.elim (hS t) fun h=>h.2.2.2.1) fun t h=>h.elim .inl fun hq=>.inr ?_⟩
      obtain⟨e1,hC⟩:=hq
      have h1:=hC.2.1
      have h2:=hC.2.2.1
      simp only
      omega)
   refine⟨s',by rw[m1,bi_some,h1,bi_some],?_⟩
   have e:(fun t=>S t∨∃ x∈M,t=x∧ChgN l fresh P z n t)=fun t=>S t∨ChgN l fresh P z n t:=by
    funext t
    refine propext ⟨fun h=>h.elim .inl fun ⟨x,_,_,h⟩=>.inr h,fun h=>h.elim .inl fun h=>.inr ⟨t,(m2 t).2 h.1,rfl,h⟩⟩
   rw[e] at h2
   exact h2)
 refine⟨s,h1,?_⟩
 have e:(fun t=>False∨∃ x∈nodes,ChgN l fresh P z x t)=fun t=>∃ n∈nodes,ChgN l fresh P z n t:=by funext t;simp
 rw[e] at h2
 exact h2
theorem Ksr{P:List PC}(hP:PCs k P)(nodes:List Str)(hn:nodes.length≤1000)(z:Int)(hz:0≤z) :
  ∃ t b,Lde k (P.map PC.t) l fresh nodes z=some (t,b)∧(b=false→t=0∧∀ t,¬ (MomA l fresh t∧z<t∧t<345686400∧factL l fresh P nodes t≠factL l fresh P nodes (t - 1)))∧
   (b=true→(MomA l fresh t∧z<t∧t<345686400∧factL l fresh P nodes t≠factL l fresh P nodes (t - 1))∧∀ t',(MomA l fresh t'∧z<t'∧t'<345686400∧factL l fresh P nodes t'≠factL l fresh P nodes (t' - 1))→t≤t'):=by
 obtain⟨M,m1,m2,m3,m4⟩:=Ksl hf ha hl hk
 unfold Lde
 rw[m1,bi_some]
 have run:∀ (L:List Int) (i:Nat),L.Pairwise (· < ·)→(∀ x∈L,MomA l fresh x)→∃ r:LS Unit (Int×Bool),rangeM (σ:=Unit) (ρ:=Int×Bool) (fun i3 x5 s4=>bi (bif ((decide ((x5:Int)>z))&&(decide ((x5:Int)<345686400))) then(bi (Ldc k (P.map PC.t) l fresh nodes x5) fun y17=>bi (Ldc k (P.map PC.t) l fresh nodes (wi (x5 - 1))) fun y19=>bi (Ldd y17 y19) fun y21=>some (!y21)) else(some false)) fun q14=>bif q14 then(bi (some (x5,true)) fun v=>some (.out v)) else(some (.go ()))) i L ()=some r∧
   match r with
   | .go _=>∀ t∈L,¬ (z<t∧t<345686400∧factL l fresh P nodes t≠factL l fresh P nodes (t - 1))
   | .out v=>v.2=true∧v.1∈L∧(z<v.1∧v.1<345686400∧factL l fresh P nodes v.1≠factL l fresh P nodes (v.1 - 1))∧∀ t'∈L,(z<t'∧t'<345686400∧factL l fresh P nodes t'≠factL l fresh P nodes (t' - 1))→v.1≤t':=by
  intro L
  induction L with
  | nil=>intro i _ _;exact⟨.go (),rfl,fun t h=>by simp at h⟩
  | cons x L ih=>
   intro i hp hm
   obtain⟨p1,p2⟩:=List.pairwise_cons.1 hp
   have hbad:¬ (z<x∧x<345686400∧factL l fresh P nodes x≠factL l fresh P nodes (x - 1))→∃ r:LS Unit (Int×Bool),rangeM (σ:=Unit) (ρ:=Int×Bool) (fun i3 x5 s4=>bi (bif ((decide ((x5:Int)>z))&&(decide ((x5:Int)<345686400))) then(bi (Ldc k (P.map PC.t) l fresh nodes x5) fun y17=>bi (Ldc k (P.map PC.t) l fresh nodes (wi (x5 - 1))) fun y19=>bi (Ldd y17 y19) fun y21=>some (!y21)) else(some false)) fun q14=>bif q14 then(bi (some (x5,true)) fun v=>some (.out v)) else(some (.go ()))) (i+1) L ()=some r∧
     match r with
     | .go _=>∀ t∈x :: L,¬ (z<t∧t<345686400∧factL l fresh P nodes t≠factL l fresh P nodes (t - 1))
     | .out v=>v.2=true∧v.1∈x :: L∧(z<v.1∧v.1<345686400∧factL l fresh P nodes v.1≠factL l fresh P nodes (v.1 - 1))∧∀ t'∈x :: L,(z<t'∧t'<345686400∧factL l fresh P nodes t'≠factL l fresh P nodes (t' - 1))→v.1≤t':=by
    intro hb
    obtain⟨r,h1,h2⟩:=ih (i+1) p2 fun y hy=>hm y (mCo _ hy)
    refine⟨r,h1,?_⟩
    cases r with
    | go u=>exact fun t ht=>(List.mem_cons.1 ht).elim (fun e=>e▸hb) (h2 t)
    | out v=>exact⟨h2.1,mCo _ h2.2.1,h2.2.2.1,fun t' ht=>(List.mem_cons.1 ht).elim (fun e h=>absurd (e▸h) hb) (h2.2.2.2 t')⟩
   simp only[rangeM]
   by_cases hc:z<x∧x<345686400
   ·rw[dT (show x>z from hc.1),dT hc.2,Bool.and_true,cond_true,Ktq hI hl fresh hP nodes hn,bi_some,Kwv (by omega) (by omega),Ktq hI hl fresh hP nodes hn,bi_some,Lig,bi_some,bi_some]
    by_cases he:factL l fresh P nodes x=factL l fresh P nodes (x - 1)
    ·rw[dT he,Bool.not_true,cond_false]
     exact hbad fun h=>h.2.2 he
    ·rw[dF he,Bool.not_false,cond_true,bi_some]
     refine⟨.out (x,true),rfl,rfl,mCs,⟨hc.1,hc.2,he⟩,fun t' ht _=>(List.mem_cons.1 ht).elim (fun e=>by rw[e];exact Int.le_refl _) fun h=>Int.le_of_lt (p1 t' h)⟩
   ·have hb:((decide ((x:Int)>z))&&(decide ((x:Int)<345686400)))=false:=by
     rw[←Bool.not_eq_true]
     simpa using hc
    rw[hb,cond_false,bi_some,cond_false]
    exact hbad fun h=>hc ⟨h.1,h.2.1⟩
 obtain⟨r,h1,h2⟩:=run M 0 m2 fun x hx=>(m4 x).1 hx
 rw[h1,bi_some]
 cases r with
 | go u=>exact⟨0,false,rfl,fun _=>⟨rfl,fun t h=>h2 t ((m4 t).2 h.1) h.2⟩,fun h=>by cases h⟩
 | out v=>
  obtain⟨a,b⟩:=v
  obtain⟨e1,e2,e3,e4⟩:=h2
  simp only at e1 e2 e3 e4
  subst e1
  exact⟨a,true,rfl,(fun h=>by cases h),fun _=>⟨⟨(m4 a).1 e2,e3⟩,fun t' h=>e4 t' ((m4 t').2 h.1) h.2⟩⟩
theorem Kss{P:List PC}(hP:PCs k P){nodes:List Str}(hN:nodes.Nodup)(hn:nodes.length≤1000)(z:Int)(hz:0≤z){s:Int×Bool}(hs:InvN (fun t=>∃ n∈nodes,ChgN l fresh P z n t) s) :
  Lde k (P.map PC.t) l fresh nodes z=some (if s.2 then s.1 else 0,s.2):=by
 obtain⟨t,b,h1,h2,h3⟩:=Ksr hI hl fresh hk hf ha hP nodes hn z hz
 rw[h1]
 have key:∀ t,(∃ n∈nodes,ChgN l fresh P z n t) ↔ (MomA l fresh t∧z<t∧t<345686400∧factL l fresh P nodes t≠factL l fresh P nodes (t - 1)):=fun t=>by
  constructor
  ·rintro⟨n,hm,⟨c,hc,hcn,hct⟩,g2,g3,g4⟩
   refine⟨.inr (.inr ⟨c,hc,?_⟩),g2,g3,(Ksn l fresh P hN t (t - 1)).2 ⟨n,hm,g4⟩⟩
   rcases hct with h | h
   ·exact .inl h
   ·refine .inr ?_
    rw[if_neg (by omega)]
    exact h
  ·rintro⟨_,g2,g3,g4⟩
   obtain⟨n,hm,g5⟩:=(Ksn l fresh P hN t (t - 1)).1 g4
   refine⟨n,hm,Classical.byContradiction fun hno=>g5 (Kto hf ha hno P),g2,g3,g5⟩
 obtain⟨a,c⟩:=s
 cases c with
 | false=>
  obtain⟨_,g⟩:=hs.1 rfl
  cases b with
  | false=>rw[(h2 rfl).1];rfl
  | true=>exact absurd ((key t).2 (h3 rfl).1) (g t)
 | true=>
  obtain⟨g1,g2⟩:=hs.2 rfl
  cases b with
  | false=>exact absurd ((key a).1 g1) ((h2 rfl).2 a)
  | true=>
   obtain⟨k1,k2⟩:=h3 rfl
   have e1:=k2 a ((key a).1 g1)
   have e2:=g2 t ((key t).2 k1)
   simp only at e2
   have:t=a:=by omega
   rw[this];rfl
end
end Go.Gk
namespace Go.Gk
theorem Krd{α:Type}{f g:Nat→α→Unit→Option (LS Unit Int)}:∀ (l:List α) (i:Nat),(∀ x∈l,∀ j,f j x ()=g j x ())→rangeM f i l ()=rangeM g i l ()
 | [],i,_=>rfl
 | x :: l,i,h=>by
  simp only[rangeM,h x List.mem_cons_self i]
  cases g i x () with
  | none=>rfl
  | some y=>cases y with
   | go s=>exact Krd l (i+1) fun y hy=>h y (mCo _ hy)
   | out v=>rfl
theorem Kre{c:Prop}[Decidable c]{a b:Int}(h:c):(if c then a else b)=a:=if_pos h
theorem Krf{c:Prop}[Decidable c]{a b:Int}(h:¬ c):(if c then a else b)=b:=if_neg h
def ordE(a b:Str):Bool:=Op.bytesLess b a||(b:Str)==a
theorem Krg{a b:Str}(h:ordE a b=false):Op.bytesLess a b=true:=by
 unfold ordE at h
 rw[Bool.or_eq_false_iff] at h
 cases hb:Op.bytesLess a b with
 | true=>rfl
 | false=>have:=Kvm b a h.1 hb;simp[this] at h
theorem Krh:∀ {l:List Str},(∀ i (hi:i+1<l.length),Op.bytesLess l[i] l[i+1]=true)→l.Nodup:=by
 intro l adj
 have hp:l.Pairwise fun a b=>Op.bytesLess a b=true:=List.pairwise_iff_getElem.2 fun i j hi hj hij=>by
  obtain⟨d,rfl⟩:∃ d,j=i+1+d:=⟨j - (i+1),by omega⟩
  clear hij
  induction d with
  | zero=>exact adj i hj
  | succ d ih=>exact Kvl _ _ _ (ih (by omega)) (adj (i+1+d) hj)
 exact hp.imp fun {a b} h e=>by rw[e,Kvk] at h;cases h
theorem Kri(k:Nat)(hk:2000<k)(l:List Str)(hl:l.length≤1000)(hs:∀ x∈l,x.length≤1000):∃ e,Lai k l=some e∧Lbv l=some e∧(e=0→l.Nodup):=by
 obtain⟨r,h1,h2⟩:=Kux (f:=fun i1 x3 s2=>bi (Kzg k x3) fun y12=>bif !y12 then(bi (some 5) fun v=>some (.out v)) else(bi (bif decide (((i1:Int):Int)>0) then(bi (getZ l (wi ((i1:Int) - 1))) fun x21=>some (Op.bytesLess x3 x21||(x3:Str)==x21)) else(some false)) fun q18=>bif q18 then(bi (some 7) fun v=>some (.out v)) else(some (.go ())))) l 0
  (fun i x=>if !keyB x then 5 else if 0<i∧ordE (l.getD (i - 1) []) x=true then 7 else 0) (fun j x hx=>by
   have hj:=(gEs.1 hx).1
   simp only[Nat.zero_add]
   rw[keyP k x (by have:=hs x (mOg hx);omega) (by have:=hs x (mOg hx);omega),bi_some]
   cases keyB x with
   | false=>rfl
   | true=>
    simp only[Bool.not_true,cond_false,Bool.false_eq_true,if_false]
    by_cases h0:0<j
    ·rw[dT (show(j:Int)>0 by omega),cond_true,Kwv (by omega) (by omega),show(j:Int) - 1=((j - 1:Nat):Int) by omega,Kxk (gGe (show j - 1<l.length by omega)),bi_some,bi_some]
     rw[List.getD_eq_getElem?_getD,gGe (show j - 1<l.length by omega),Option.getD_some]
     show(bif ordE l[j - 1] x then _ else _)=_
     cases ho:ordE l[j - 1] x with
     | true=>simp[h0]
     | false=>simp
    rw[dF (show ¬ (j:Int)>0 by omega),cond_false,bi_some,cond_false,Krf (fun h=>h0 h.1)];rfl)
 have h1':rangeM (σ:=Unit) (ρ:=Int) (fun i1 x3 s2=>bi (Lbe x3) fun y12=>bif !y12 then(bi (some 5) fun v=>some (.out v)) else(bi (bif decide (((i1:Int):Int)>0) then(bi (getZ l (wi ((i1:Int) - 1))) fun x21=>some (Op.bytesLess x3 x21||(x3:Str)==x21)) else(some false)) fun q18=>bif q18 then(bi (some 7) fun v=>some (.out v)) else(some (.go ())))) 0 l ()=some (if r=0 then .go () else .out r):=by
  rw[←h1]
  refine Krd l 0 fun x hx j=>?_
  have:=hs x hx
  rw[keyP k x (by omega) (by omega),keyR x (by omega)]
 refine⟨r,?_,?_,fun hr=>Krh fun i hi=>?_⟩
 ·unfold Lai
  rw[h1]
  by_cases hr:r=0
  ·rw[if_pos hr,hr];rfl
  rw[if_neg hr];rfl
 ·unfold Lbv
  rw[h1']
  by_cases hr:r=0
  ·rw[if_pos hr,hr];rfl
  rw[if_neg hr];rfl
 have:=h2 hr (i+1) l[i+1] (gGe hi)
 simp only[Nat.zero_add] at this
 split at this
 ·cases this
 split at this
 ·cases this
 rename_i h
 rw[List.getD_eq_getElem?_getD,show i+1 - 1=i by omega,gGe (show i<l.length by omega),Option.getD_some] at h
 exact Krg (by cases ho:ordE l[i] l[i+1] with | false=>rfl | true=>exact absurd ⟨by omega,ho⟩ h)
def PcS(k:Nat)(x:PC):Prop:=x.1.length≤1000∧x.2.Gd∧x.2.dp+50010<k∧x.2.lf.length≤1000000
theorem Krj{k:Nat}{c:CC}(hg:c.Gd)(hk:c.dp+50010<k)(h:Kzv k c.t=some 0):c.WF:=by
 refine Kqn c.dp k c hg (Nat.le_refl _) hk ?_
 unfold Kzv at h
 obtain⟨y,_,h⟩:=Kfx h
 cases hb:((decide ((y.1:Int)>100))||(decide ((y.2:Int)>30))) with
 | true=>rw[hb] at h;cases h
 | false=>
  rw[hb,cond_false] at h
  obtain⟨e,he,h⟩:=Kfx h
  cases h
  exact he
theorem Krk(k:Nat)(hk:60000<k)(P:List PC)(hl:P.length≤100)(hs:∀ x∈P,PcS k x):∃ e,Kzw k (P.map PC.t)=some e∧Lbq k (P.map PC.t)=some e∧(e=0→PCs k P):=by
 have hc:∀ x∈P,∃ e,Kzv k x.2.t=some e∧Lbp k x.2.t=some e:=fun x hx=>Kbq k x.2 (hs x hx).2.1 (hs x hx).2.2.1
 obtain⟨r,h1,h2⟩:=Kux (f:=fun i3 x5 s4=>bi (Kzg k x5.Key) fun y14=>bif !y14 then(bi (some 5) fun v=>some (.out v)) else(bi (bif decide (((i3:Int):Int)>0) then(bi (getZ (P.map PC.t) (wi ((i3:Int) - 1))) fun x23=>some (Op.bytesLess x5.Key x23.Key||(x5.Key:Str)==x23.Key)) else(some false)) fun q20=>bif q20 then(bi (some 7) fun v=>some (.out v)) else(bi (Kzv k x5.Cond) fun y30=>bif (y30:Int) != 0 then(bi (some y30) fun v=>some (.out v)) else(some (.go ()))))) (P.map PC.t) 0
  (fun i x=>if !keyB x.Key then 5 else if 0<i∧((P[i - 1]?).map fun y=>ordE y.1 x.Key)=some true then 7 else(Kzv k x.Cond).getD 0) (fun j x hx=>by
   rw[gMp] at hx
   obtain⟨y,hy,rfl⟩:=oMs.1 hx
   have hj:=(gEs.1 hy).1
   have hm:=mOg hy
   obtain⟨s1,_⟩:=hs y hm
   obtain⟨e,e1,_⟩:=hc y hm
   simp only[Nat.zero_add]
   rw[show y.t.Key=y.1 from rfl,keyP k y.1 (by omega) (by omega),bi_some]
   cases keyB y.1 with
   | false=>rfl
   | true=>
    simp only[Bool.not_true,cond_false,Bool.false_eq_true,if_false]
    have tail:(bi (Kzv k y.t.Cond) fun y30=>bif (y30:Int) != 0 then(bi (some y30) fun v=>some (.out v)) else(some (LS.go ())))=some (if (Kzv k y.t.Cond).getD 0=0 then LS.go () else LS.out ((Kzv k y.t.Cond).getD 0)):=by
     rw[show Kzv k y.t.Cond=some e from e1,bi_some,Option.getD_some]
     by_cases he:e=0
     ·subst he;rfl
     rw[show((e:Int) != 0)=true by simpa using he,if_neg he];rfl
    by_cases h0:0<j
    ·have hg:(P.map PC.t)[j - 1]?=some (P[j - 1]'(by omega)).t:=by rw[gMp,gGe (show j - 1<P.length by omega)];rfl
     rw[dT (show(j:Int)>0 by omega),cond_true,Kwv (by omega) (by omega),show(j:Int) - 1=((j - 1:Nat):Int) by omega,Kxk hg,bi_some,bi_some,gGe (show j - 1<P.length by omega)]
     show(bif ordE (P[j - 1]'(by omega)).1 y.1 then _ else _)=_
     cases ho:ordE (P[j - 1]'(by omega)).1 y.1 with
     | true=>rw[Kre ⟨h0,by simp[ho]⟩];rfl
     | false=>rw[Krf (fun h=>by have:=h.2;simp[ho] at this),cond_false];exact tail
    rw[dF (show ¬ (j:Int)>0 by omega),cond_false,bi_some,cond_false,Krf (fun h=>h0 h.1)]
    exact tail)
 have h1':rangeM (σ:=Unit) (ρ:=Int) (fun i3 x5 s4=>bi (Lbe x5.Key) fun y14=>bif !y14 then(bi (some 5) fun v=>some (.out v)) else(bi (bif decide (((i3:Int):Int)>0) then(bi (getZ (P.map PC.t) (wi ((i3:Int) - 1))) fun x23=>some (Op.bytesLess x5.Key x23.Key||(x5.Key:Str)==x23.Key)) else(some false)) fun q20=>bif q20 then(bi (some 7) fun v=>some (.out v)) else(bi (Lbp k x5.Cond) fun y30=>bif (y30:Int) != 0 then(bi (some y30) fun v=>some (.out v)) else(some (.go ()))))) 0 (P.map PC.t) ()=some (if r=0 then .go () else .out r):=by
  rw[←h1]
  refine Krd (P.map PC.t) 0 fun x hx j=>?_
  obtain⟨y,hy,rfl⟩:=List.mem_map.1 hx
  obtain⟨s1,_⟩:=hs y hy
  obtain⟨e,e1,e2⟩:=hc y hy
  rw[show y.t.Key=y.1 from rfl,keyP k y.1 (by omega) (by omega),keyR y.1 (by omega),show Kzv k y.t.Cond=some e from e1,show Lbp k y.t.Cond=some e from e2]
 refine⟨r,?_,?_,fun hr=>⟨hl,fun x hx=>?_⟩⟩
 ·unfold Kzw
  rw[dF (show ¬ (((P.map PC.t).length:Int):Int)>100 by simp;omega),cond_false,h1]
  by_cases hr:r=0
  ·rw[if_pos hr,hr];rfl
  rw[if_neg hr];rfl
 ·unfold Lbq
  rw[dF (show ¬ (((P.map PC.t).length:Int):Int)>100 by simp;omega),cond_false,h1']
  by_cases hr:r=0
  ·rw[if_pos hr,hr];rfl
  rw[if_neg hr];rfl
 obtain⟨j,hj⟩:=List.getElem?_of_mem hx
 have:=h2 hr j x.t (by rw[gMp,hj];rfl)
 obtain⟨s1,s2,s3,s4⟩:=hs x hx
 obtain⟨e,e1,_⟩:=hc x hx
 refine⟨Krj s2 s3 ?_,by omega,s4⟩
 split at this
 ·cases this
 split at this
 ·cases this
 rw[show Kzv k x.t.Cond=some e from e1,Option.getD_some] at this
 rw[e1,this]
theorem Krl{k:Nat}(hk:2000<k){p:List Kyg}{l:List Kyh}{fresh:Int}{nodes:List Str}{z eP e0 eN:Int}(h1:Kzw k p=some eP)(h2:Lac k l=some e0)(hn:nodes.length≤500)(h3:Lai k nodes=some eN) :
  Lak k p l fresh nodes z=some (if eP≠0 then eP else if e0≠0 then e0 else if freE fresh≠0 then freE fresh else if eN≠0 then eN else momE z):=by
 have hcf:Lah k l fresh []=some (if e0≠0 then e0 else freE fresh):=by
  unfold Lah
  rw[h2,bi_some,(Kus fresh).1,bi_some,show Lag k []=some false from rfl,bi_some]
  by_cases g0:e0=0
  ·rw[g0]
   simp only[bne_self_eq_false,cond_false,ne_eq,not_true,if_false]
   by_cases g1:freE fresh=0
   ·rw[g1];rfl
   ·rw[show(freE fresh != 0)=true by simpa using g1];rfl
  ·rw[show(e0 != 0)=true by simpa using g0,cond_true,if_pos g0]
 unfold Lak
 rw[h1,bi_some,hcf,bi_some,dF (show ¬ (((nodes.length:Int):Int)>500) by omega),h3,bi_some,(Kut z).1,bi_some]
 by_cases g0:eP=0
 ·rw[g0]
  simp only[bne_self_eq_false,cond_false,ne_eq,not_true,if_false]
  by_cases g1:e0=0
  ·rw[g1]
   simp only[ne_eq,not_true,if_false]
   by_cases g2:freE fresh=0
   ·rw[g2]
    simp only[bne_self_eq_false,cond_false,not_true,if_false]
    by_cases g3:eN=0
    ·rw[g3];rfl
    ·rw[show(eN != 0)=true by simpa using g3,cond_true,if_pos g3]
   ·rw[show(freE fresh != 0)=true by simpa using g2,cond_true,if_pos g2]
  ·rw[if_pos g1,show(e0 != 0)=true by simpa using g1,cond_true,if_pos g1]
 ·rw[show(eP != 0)=true by simpa using g0,cond_true,if_pos g0]
end Go.Gk
