import Derived.Test.YthhdojhbohfmnaaGreatDoorJSh
import Derived.Test.YthhdojhbohfmnaaGreatDoorJCompact
set_option linter.all false
set_option maxRecDepth 100000
namespace Go.Gk
def Ats(l:List Lcy):Prop:=∀ c∈l,0≤c.At∧c.At<345686400
theorem Kxm{k:Nat}{l:List Lcy}(h:∀ j x,l[j]?=some x→chkE k l (0+j) x=0):Ats l:=fun c hc=>by
 obtain⟨j,hj⟩:=List.getElem?_of_mem hc
 exact Kyu (h j c hj)
def MomN(l:List Lcy)(fresh:Int)(node:Str)(t:Int):Prop:=∃ c∈l,c.Node=node∧(t=c.At∨t=c.At+fresh)
theorem Kxn(node name:Str){fresh t:Int}(hf:1≤fresh∧fresh≤345686400):∀ L:List Lcy,Ats L→(∀ c∈L,c.Node=node→c.At≠t∧c.At+fresh≠t)→
  kGo (kHit node name t) fresh t L=kGo (kHit node name (t - 1)) fresh (t - 1) L
 | [],_,_=>rfl
 | c :: L,ha,hn=>by
  have ih:=Kxn node name hf L (fun x hx=>ha x (mCo _ hx)) (fun x hx=>hn x (mCo _ hx))
  have hc:=ha c mCs
  have hw:wi (c.At+fresh)=c.At+fresh:=Law (by omega) (by omega)
  simp only[kGo,hw]
  by_cases hN:c.Node=node
  ·obtain⟨n1,n2⟩:=hn c mCs hN
   have hh:kHit node name t c=kHit node name (t - 1) c:=by
    unfold kHit
    rw[show decide (c.At≤t)=decide (c.At≤t - 1) from decide_eq_decide.2 (by omega)]
   rw[hh,ih]
   cases kHit node name (t - 1) c with
   | false=>rfl
   | true=>
    simp only[if_true]
    by_cases h:t<c.At+fresh
    ·rw[if_pos h,if_pos (by omega)]
    ·rw[if_neg h,if_neg (by omega)]
  ·have h0:∀ z,kHit node name z c=false:=fun z=>by unfold kHit;simp[hN]
   rw[h0,h0,ih]
   simp only[Bool.false_eq_true,if_false]
theorem Kxo{l:List Lcy}{fresh:Int}(hf:1≤fresh∧fresh≤345686400)(ha:Ats l){node:Str}{t:Int}(hn:¬ MomN l fresh node t)(name:Str) :
  Lgl l fresh node name t=Lgl l fresh node name (t - 1):=by
 unfold Lgl
 rw[Kxn node name hf l.reverse (fun c hc=>ha c (List.mem_reverse.1 hc)) fun c hc hN=>⟨fun e=>hn ⟨c,List.mem_reverse.1 hc,hN,.inl e.symm⟩,fun e=>hn ⟨c,List.mem_reverse.1 hc,hN,.inr e.symm⟩⟩]
theorem Kxp{l:List Lcy}{fresh:Int}(hf:1≤fresh∧fresh≤345686400)(ha:Ats l){node:Str}{t:Int}(hn:¬ MomN l fresh node t)(c:CC):lv l fresh node t c=lv l fresh node (t - 1) c:=by
 unfold lv Lgn
 rw[Kxo hf ha hn]
def Vd(l:List Lcy)(fresh:Int)(node:Str)(t:Int)(c:CC):Int:=c.sh.ev (c.lf.map (lv l fresh node t))
theorem Kxq{l:List Lcy}{fresh:Int}(hf:1≤fresh∧fresh≤345686400)(ha:Ats l){node:Str}{t:Int}(hn:¬ MomN l fresh node t)(c:CC):Vd l fresh node t c=Vd l fresh node (t - 1) c:=by
 unfold Vd
 congr 1
 exact List.map_congr_left fun x _=>Kxp hf ha hn x
theorem Kxr{α:Type}[DecidableEq α]{f:Nat→α→Unit→Option (LS Unit Bool)}{a b:List α}(hf:∀ i x y,b[i]?=some y→f i x ()=some (if x=y then .go () else .out false)) :
  (bif ((a.length:Int):Int) != (b.length:Int) then(some false) else(bi (rangeM f 0 a ()) fun q=>goI q fun a8=>some true))=some (decide (a=b)):=by
 by_cases hl:a.length=b.length
 ·rw[show(((a.length:Int):Int) != (b.length:Int))=false by simp[hl],cond_false]
  have key:∀ (l l':List α) (i:Nat),l.length=l'.length→(∀ j y,l'[j]?=some y→b[i+j]?=some y)→rangeM f i l ()=some (if l=l' then .go () else .out false):=by
   intro l
   induction l with
   | nil=>
    intro l' i h1 h2
    cases l' with
    | nil=>rfl
    | cons y r=>simp at h1
   | cons x l ih=>
    intro l' i h1 h2
    cases l' with
    | nil=>simp at h1
    | cons y r=>
     have hy:=h2 0 y rfl
     rw[Nat.add_zero] at hy
     simp only[rangeM,hf i x y hy]
     by_cases e:x=y
     ·subst e
      rw[if_pos rfl]
      simp only
      rw[ih r (i+1) (by simpa using h1) fun j z hz=>by rw[show i+1+j=i+(j+1) by omega];exact h2 (j+1) z (by simpa using hz)]
      by_cases e2:l=r
      ·rw[if_pos e2,if_pos (by rw[e2])]
      ·rw[if_neg e2,if_neg (by simpa using e2)]
     ·rw[if_neg e,if_neg (by intro e2;injection e2;contradiction)]
  rw[key a b 0 hl fun j y hy=>by rw[Nat.zero_add];exact hy]
  by_cases e:a=b
  ·rw[if_pos e,dT e];rfl
  ·rw[if_neg e,dF e];rfl
 ·rw[show(((a.length:Int):Int) != (b.length:Int))=true by simp;omega,cond_true,dF fun e=>hl (by rw[e])]
abbrev PC:=Str×CC
def PCs(k:Nat)(P:List PC):Prop:=P.length≤100∧∀ x∈P,x.2.WF∧x.2.dp<k∧x.2.lf.length≤1000000
def metL(l:List Lcy)(fresh:Int)(P:List PC)(node:Str)(t:Int):List Str:=(P.filter fun x=>decide (Vd l fresh node t x.2=1)).map (·.1)
theorem Kxs(l:List Lcy)(fresh:Int)(P:List PC)(node:Str)(t:Int):(metL l fresh P node t).length≤P.length:=by
 unfold metL
 rw[List.length_map]
 exact List.length_filter_le _ _
theorem Kxt{l:List Lcy}{fresh:Int}(hf:1≤fresh∧fresh≤345686400)(ha:Ats l){node:Str}{t:Int}(hn:¬ MomN l fresh node t)(P:List PC):metL l fresh P node t=metL l fresh P node (t - 1):=by
 unfold metL
 congr 1
 exact List.filter_congr fun x _=>by rw[Kxq hf ha hn]
section
variable{m:List (Lda×(Tl Lcy))}{al:List Bool}{l:List Lcy}(hI:InvR al m l)(hl:l.length≤900)(fresh:Int){k:Nat}
include hI hl
end
end Go.Gk
namespace Go.Gk
theorem wi_c{c:Lcy}{fresh:Int}(hf:1≤fresh∧fresh≤345686400)(hc:0≤c.At∧c.At<345686400):wi (c.At+fresh)=c.At+fresh:=Law (by omega) (by omega)
theorem Kvn{l:List Lcy}{fresh:Int}(hf:1≤fresh∧fresh≤345686400)(ha:Ats l)(hl:l.length≤900)(node:Str){k:Nat}(hk:3000≤k) :
  ∃ M,Lfk k l fresh node=some M∧(∀ t,t∈M ↔ MomN l fresh node t)∧M.Pairwise (· < ·)∧M.length≤2000:=by
 have loop:∀ (L:List Lcy) (i:Nat) (acc:List Int),Ats L→acc.length+2 * L.length≤1900→
   ∃ R,rangeF (σ:=List Int) (fun i1 x3 s2=>bif (x3.Node:Str)==node then(bi (apd s2 [x3.At,wi (x3.At+fresh)]) fun y13=>some y13) else(some s2)) i L acc=some R∧R.length≤acc.length+2 * L.length∧∀ t,t∈R ↔ t∈acc∨MomN L fresh node t:=by
  intro L
  induction L with
  | nil=>intro i acc _ _;exact⟨acc,rfl,by simp,fun t=>by simp[MomN]⟩
  | cons c L ih=>
   intro i acc h hb
   simp only[List.length_cons] at hb
   have hc:=h c mCs
   have hL:Ats L:=fun x hx=>h x (mCo _ hx)
   simp only[rangeF]
   by_cases hN:c.Node=node
   ·rw[show((c.Node:Str)==node)=true by simpa using hN,cond_true,Lbe (by simp;omega),bi_some,bi_some,wi_c hf hc]
    obtain⟨R,h1,h2,h3⟩:=ih (i+1) (acc++[c.At,c.At+fresh]) hL (by simp;omega)
    refine⟨R,h1,by simp at h2 ⊢;omega,fun t=>?_⟩
    rw[h3]
    simp only[List.mem_append,List.mem_cons,List.not_mem_nil,or_false,MomN,exists_eq_or_imp,or_assoc]
    constructor
    ·rintro(h | h | h | h)
     ·exact .inl h
     ·exact .inr (.inl ⟨hN,.inl h⟩)
     ·exact .inr (.inl ⟨hN,.inr h⟩)
     ·exact .inr (.inr h)
    ·rintro(h | ⟨_,h | h⟩ | h)
     ·exact .inl h
     ·exact .inr (.inl h)
     ·exact .inr (.inr (.inl h))
     ·exact .inr (.inr (.inr h))
   ·rw[show((c.Node:Str)==node)=false by simpa using hN,cond_false,bi_some]
    obtain⟨R,h1,h2,h3⟩:=ih (i+1) acc hL (by omega)
    refine⟨R,h1,by simp;omega,fun t=>?_⟩
    rw[h3]
    simp only[MomN,List.mem_cons,exists_eq_or_imp]
    constructor
    ·rintro(h | h)
     ·exact .inl h
     ·exact .inr (.inr h)
    ·rintro(h | ⟨h,_⟩ | h)
     ·exact .inl h
     ·exact absurd h hN
     ·exact .inr h
 obtain⟨R,h1,h2,h3⟩:=loop l 0 [] ha (by simp;omega)
 simp only[List.length_nil] at h2
 obtain⟨r1,r2⟩:=Kst k R (by omega) (by omega)
 refine⟨rise R,?_,fun t=>by rw[Kss,h3];simp,Ksr R,?_⟩
 ·unfold Lfk
  rw[h1,bi_some,r1,bi_some,show decide ((R.mergeSort fun x y=>decide (x≤y)).length=R.length)=true by simp]
  show bi (Lfj k _) _=_
  rw[r2,bi_some]
 ·unfold rise
  refine Nat.le_trans (Ksl _ _) ?_
  omega
theorem Kvo{l:List Lcy}{fresh:Int}(hf:1≤fresh∧fresh≤345686400)(ha:Ats l)(hl:l.length≤900)(node:Str){k:Nat}(hk:3000≤k) :
  ∃ M,Lfk k l fresh node=some M∧∀ t,t∈M ↔ MomN l fresh node t:=
 let ⟨M,h1,h2,_⟩:=Kvn hf ha hl node hk
 ⟨M,h1,h2⟩
def MomA(l:List Lcy)(fresh:Int)(t:Int):Prop:=t=0∨t=345686400∨∃ c∈l,t=c.At∨t=if 345686400<c.At+fresh then 345686400 else c.At+fresh
theorem Kvp{l:List Lcy}{fresh:Int}(hf:1≤fresh∧fresh≤345686400)(ha:Ats l)(hl:l.length≤900){k:Nat}(hk:3000≤k) :
  ∃ M,Lgx k l fresh=some M∧M.Pairwise (· < ·)∧M.length≤2000∧∀ t,t∈M ↔ MomA l fresh t:=by
 have loop:∀ (L:List Lcy) (i:Nat) (acc:List Int),Ats L→acc.length+2 * L.length≤1900→
   ∃ R,rangeF (σ:=List Int) (fun i1 x3 s2=>bi (apd s2 [x3.At,(if 345686400<(wi (x3.At+fresh)) then 345686400 else wi (x3.At+fresh))]) fun y12=>some y12) i L acc=some R∧R.length≤acc.length+2 * L.length∧∀ t,t∈R ↔ t∈acc∨∃ c∈L,t=c.At∨t=if 345686400<c.At+fresh then 345686400 else c.At+fresh:=by
  intro L
  induction L with
  | nil=>intro i acc _ _;exact⟨acc,rfl,by simp,fun t=>by simp⟩
  | cons c L ih=>
   intro i acc h hb
   simp only[List.length_cons] at hb
   have hc:=h c mCs
   have hL:Ats L:=fun x hx=>h x (mCo _ hx)
   simp only[rangeF]
   rw[Lbe (by simp;omega),bi_some,bi_some,wi_c hf hc]
   obtain⟨R,h1,h2,h3⟩:=ih (i+1) (acc++[c.At,if 345686400<c.At+fresh then 345686400 else c.At+fresh]) hL (by simp;omega)
   refine⟨R,h1,by simp at h2 ⊢;omega,fun t=>?_⟩
   rw[h3]
   simp only[List.mem_append,List.mem_cons,List.not_mem_nil,or_false,exists_eq_or_imp,or_assoc]
 obtain⟨R,h1,h2,h3⟩:=loop l 0 [0,345686400] ha (by simp;omega)
 simp only[List.length_cons,List.length_nil] at h2
 obtain⟨r1,r2⟩:=Kst k R (by omega) (by omega)
 refine⟨rise R,?_,Ksr R,?_,fun t=>by rw[Kss,h3];simp[MomA,or_assoc]⟩
 ·unfold Lgx
  rw[h1,bi_some,r1,bi_some,show decide ((R.mergeSort fun x y=>decide (x≤y)).length=R.length)=true by simp]
  show bi (Lfj k _) _=_
  rw[r2,bi_some]
 ·unfold rise
  refine Nat.le_trans (Ksl _ _) ?_
  omega
def InvN(S:Int→Prop)(s:Int×Bool):Prop:=(s.2=false→s.1=345686400∧∀ t,¬ S t)∧(s.2=true→S s.1∧∀ t,S t→s.1≤t)
theorem Kvq{S S':Int→Prop}{s:Int×Bool}(h:InvN S s)(hs:∀ t,S t→S' t)(hb:∀ t,S' t→t<345686400)(hn:∀ t,S' t→S t∨s.1≤t):InvN S' s:=
 ⟨fun e=>⟨(h.1 e).1,fun t ht=>(hn t ht).elim ((h.1 e).2 t) fun h2=>by have:=(h.1 e).1;have:=hb t ht;omega⟩,fun e=>⟨hs _ (h.2 e).1,fun t ht=>(hn t ht).elim ((h.2 e).2 t) id⟩⟩
theorem Kvr{α:Type}{f:Nat→α→Int×Bool→Option (Int×Bool)}{R:α→Int→Prop}(hR:∀ x t,R x t→t<345686400):∀ (L:List α) (i:Nat) (S:Int→Prop) (s:Int×Bool),(∀ t,S t→t<345686400)→InvN S s→
  (∀ x∈L,∀ i (S:Int→Prop) s,(∀ t,S t→t<345686400)→InvN S s→∃ s',f i x s=some s'∧InvN (fun t=>S t∨R x t) s')→∃ s',rangeF f i L s=some s'∧InvN (fun t=>S t∨∃ x∈L,R x t) s'
 | [],i,S,s,_,h,_=>⟨s,rfl,by
   have e:(fun t=>S t∨∃ x∈([]:List α),R x t)=S:=by funext t;simp
   rw[e];exact h⟩
 | x :: L,i,S,s,hS,h,hf=>by
  obtain⟨s1,h1,h2⟩:=hf x mCs i S s hS h
  obtain⟨s2,h3,h4⟩:=Kvr hR L (i+1) (fun t=>S t∨R x t) s1 (fun t ht=>ht.elim (hS t) (hR x t)) h2 fun y hy=>hf y (mCo _ hy)
  refine⟨s2,by simp only[rangeF,h1,bi_some,h3],?_⟩
  have e:(fun t=>(S t∨R x t)∨∃ y∈L,R y t)=fun t=>S t∨∃ y∈x :: L,R y t:=by
   funext t
   simp only[List.mem_cons,exists_eq_or_imp,or_assoc]
  rw[←e];exact h4
section
variable{m:List (Lda×(Tl Lcy))}{al:List Bool}{l:List Lcy}(hI:InvR al m l)(hl:l.length≤900)(fresh:Int){k:Nat}(hk:3000≤k)(hf:1≤fresh∧fresh≤345686400)(ha:Ats l)
include hI hl hk hf ha
def ChgN(l:List Lcy)(fresh:Int)(P:List PC)(z:Int)(n:Str)(t:Int):Prop:=MomN l fresh n t∧z<t∧t<345686400∧metL l fresh P n t≠metL l fresh P n (t - 1)
end
end Go.Gk
namespace Go.Gk
theorem Ktl{α:Type}{f g:Nat→α→Unit→Option (LS Unit Int)}:∀ (l:List α) (i:Nat),(∀ x∈l,∀ j,f j x ()=g j x ())→rangeM f i l ()=rangeM g i l ()
 | [],i,_=>rfl
 | x :: l,i,h=>by
  simp only[rangeM,h x List.mem_cons_self i]
  cases g i x () with
  | none=>rfl
  | some y=>cases y with
   | go s=>exact Ktl l (i+1) fun y hy=>h y (mCo _ hy)
   | out v=>rfl
theorem Ktm{c:Prop}[Decidable c]{a b:Int}(h:c):(if c then a else b)=a:=if_pos h
theorem Ktn{c:Prop}[Decidable c]{a b:Int}(h:¬ c):(if c then a else b)=b:=if_neg h
def ordE(a b:Str):Bool:=Op.bytesLess b a||(b:Str)==a
theorem Kto{a b:Str}(h:ordE a b=false):Op.bytesLess a b=true:=by
 unfold ordE at h
 rw[Bool.or_eq_false_iff] at h
 cases hb:Op.bytesLess a b with
 | true=>rfl
 | false=>have:=Kzh b a h.1 hb;simp[this] at h
theorem Ktp:∀ {l:List Str},(∀ i (hi:i+1<l.length),Op.bytesLess l[i] l[i+1]=true)→l.Nodup:=by
 intro l adj
 have hp:l.Pairwise fun a b=>Op.bytesLess a b=true:=List.pairwise_iff_getElem.2 fun i j hi hj hij=>by
  obtain⟨d,rfl⟩:∃ d,j=i+1+d:=⟨j - (i+1),by omega⟩
  clear hij
  induction d with
  | zero=>exact adj i hj
  | succ d ih=>exact Kzg _ _ _ (ih (by omega)) (adj (i+1+d) hj)
 exact hp.imp fun {a b} h e=>by rw[e,Kzf] at h;cases h
def PcS(k:Nat)(x:PC):Prop:=x.1.length≤1000∧x.2.Gd∧x.2.dp+50010<k∧x.2.lf.length≤1000000
theorem Ktq{k:Nat}{c:CC}(hg:c.Gd)(hk:c.dp+50010<k)(h:Lek k c.t=some 0):c.WF:=by
 refine Ksx c.dp k c hg (Nat.le_refl _) hk ?_
 unfold Lek at h
 obtain⟨y,_,h⟩:=Khz h
 cases hb:((decide ((y.1:Int)>100))||(decide ((y.2:Int)>30))) with
 | true=>rw[hb] at h;cases h
 | false=>
  rw[hb,cond_false] at h
  obtain⟨e,he,h⟩:=Khz h
  cases h
  exact he
end Go.Gk
