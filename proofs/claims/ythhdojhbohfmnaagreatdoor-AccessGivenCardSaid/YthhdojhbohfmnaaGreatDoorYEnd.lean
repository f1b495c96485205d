import Derived.Test.YthhdojhbohfmnaaGreatDoorYReq
import Derived.Test.YthhdojhbohfmnaaGreatDoorTLoop
set_option linter.all false
set_option maxRecDepth 100000
namespace Go.Gk
def GA(x:Int)(S:SQ)(k:Str):Option Kwl:=match mGet S k with
 | some q=>bif gB x q then some ⟨q.node,q.post⟩ else none
 | none=>none
theorem Lha{x:Int}{S:SQ}(h:SM S)(f:Kwl):f∈(S.flatMap fun e=>gP x e.2) ↔ ∃ k,GA x S k=some f:=by
 rw[List.mem_flatMap]
 constructor
 ·rintro⟨e,he,hf⟩
  obtain⟨h1,h2⟩:=Lif.1 hf
  refine⟨e.1,?_⟩
  unfold GA
  rw[h.get (k:=e.1) (v:=e.2) he]
  simp only[h1,cond_true,h2]
 rintro⟨k,hk⟩
 unfold GA at hk
 cases hg:mGet S k with
 | none=>rw[hg] at hk;cases hk
 | some q=>
  rw[hg] at hk
  simp only at hk
  cases hb:gB x q with
  | false=>rw[hb] at hk;cases hk
  | true=>
   rw[hb] at hk
   exact⟨(k,q),Ktw hg,Lif.2 ⟨hb,(oSi hk).symm⟩⟩
theorem Lhb{x x':Int}{S S':SQ}(h:SM S)(h':SM S')(he:∀ k,GA x S k=GA x' S' k):fkG x S=fkG x' S':=
 Lgh fun f=>by
  rw[Lha h,Lha h']
  simp only[he]
section
variable{R:List Kwf}
theorem Lhc{x:Int}{S:SQ}{a:Kwg}(ha:x<a.At)(k:Str):GA x (stepS R a S).2 k=GA x S k:=by
 rcases Lko R a S with e | ⟨y,_,e0,_,_,e⟩ | ⟨q0,q',_,e1,e2,e⟩
 ·rw[e]
 ·rw[e]
  unfold GA
  rw[Kua]
  by_cases hk:k=a.Key
  ·rw[show(k==a.Key)=true by simpa using hk,hk,e0]
   rfl
  rw[show(k==a.Key)=false by simpa using hk]
  rfl
 rw[e]
 unfold GA
 rw[Kua]
 by_cases hk:k=a.Key
 ·rw[show(k==a.Key)=true by simpa using hk,hk,e1]
  simp only[if_true]
  rcases Lke e2 with⟨w,rfl⟩ | ⟨w,rfl⟩ | ⟨w,w2,rfl⟩
  ·have h0:gB x q0=false:=by unfold gB;rw[(Lkf w).2];rfl
   have h1:gB x (agreeQ q0 a)=false:=by
    unfold agreeQ
    cases hN:((q0.yes++[a.By]).length:Int)==q0.acc.Need
    ·simp only[cond_false]
     show(q0.giv&&_)=false
     rw[(Lkf w).2];rfl
    simp only[cond_true]
    show(true&&(decide (a.At≤x)&&_))=false
    rw[dF (by omega)];rfl
   rw[h0,h1];rfl
  ·have h0:gB x q0=false:=by unfold gB;rw[(Lkf w).2];rfl
   have h1:gB x ⟨q0.key,q0.wer,q0.node,q0.post,q0.beg,q0.long,q0.acc,q0.yes,true,q0.giv,q0.von,q0.bis⟩=false:=h0
   rw[h0,h1]
  have h1:gB x ⟨q0.key,q0.wer,q0.node,q0.post,q0.beg,q0.long,q0.acc,q0.yes,q0.den,q0.giv,q0.von,a.At⟩=gB x q0:=by
   show(q0.giv&&(decide (q0.von≤x)&&decide (x<a.At)))=(q0.giv&&(decide (q0.von≤x)&&decide (x<q0.bis)))
   rw[dT ha,dT (show x<q0.bis by omega)]
  rw[h1]
 rw[show(k==a.Key)=false by simpa using hk]
 rfl
theorem Lhd{x:Int}(k:Str):∀ (l:List Kwg) {S:SQ},(∀ a∈l,x<a.At)→GA x (runS R l S) k=GA x S k
 | [],S,_=>rfl
 | a :: l,S,h=>by
  have e:GA x (runS R l (stepS R a S).2) k=GA x (stepS R a S).2 k:=Lhd k l fun b hb=>h b (mCo _ hb)
  show GA x (runS R l (stepS R a S).2) k=_
  rw[e,Lhc (h a mCs)]
theorem Lhe(x:Int):∀ {l:List Kwg},Rise l→l=(l.filter fun a=>decide (a.At≤x))++l.filter fun a=>decide (x<a.At)
 | [],_=>rfl
 | a :: l,h=>by
  obtain⟨h1,h2⟩:=List.pairwise_cons.1 h
  have ih:=Lhe x h2
  rw[List.filter_cons,List.filter_cons]
  by_cases ha:a.At≤x
  ·rw[dT ha,dF (show ¬ x<a.At by omega)]
   simp only[if_true,Bool.false_eq_true,if_false,List.cons_append]
   rw[←ih]
  rw[dF ha,dT (show x<a.At by omega)]
  simp only[Bool.false_eq_true,if_false,if_true]
  have h3:(l.filter fun a=>decide (a.At≤x))=[]:=List.filter_eq_nil_iff.2 fun b hb=>by have:=h1 b hb;simp;omega
  rw[h3] at ih ⊢
  rw[List.nil_append] at ih ⊢
  rw[←ih]
theorem Lhf{l:List Kwg}(hr:Rise l)(ha:∀ a∈l,a.At<345686400)(x:Int):stA R l 345686400=runS R (l.filter fun a=>decide (x<a.At)) (stA R l x):=by
 unfold stA
 rw[List.filter_eq_self.2 fun a h=>by have:=ha a h;simp;omega]
 show runS R l []=_
 conv=>lhs;rw[Lhe x hr]
 unfold runS
 rw[List.foldl_append]
theorem Lhg{l:List Kwg}(hr:Rise l)(ha:∀ a∈l,a.At<345686400)(x:Int)(k:Str):GA x (stA R l 345686400) k=GA x (stA R l x) k:=by
 rw[Lhf hr ha x]
 exact Lhd k _ fun a h=>by simpa using (List.mem_filter.1 h).2
theorem Lhh{l:List Kwg}(hr:Rise l)(ha:∀ a∈l,a.At<345686400)(x:Int):fkG x (stA R l x)=fkG x (stA R l 345686400):=
 Lhb (Lil l x) (Lil l _) fun k=>(Lhg hr ha x k).symm
theorem Lhi{S:SQ}(h:SM S){t:Int}(hc:fkG t S≠fkG (t - 1) S):∃ k q,mGet S k=some q∧q.giv=true∧q.von<q.bis∧(q.von=t∨q.bis=t):=by
 refine Classical.byContradiction fun hn=>hc (Lhb h h fun k=>?_)
 unfold GA
 cases hg:mGet S k with
 | none=>rfl
 | some q=>
  have:gB t q=gB (t - 1) q:=by
   unfold gB
   cases hv:q.giv with
   | false=>rfl
   | true=>
    by_cases h1:q.von<q.bis
    ·have h2:¬ (q.von=t∨q.bis=t):=fun e=>hn ⟨k,q,hg,hv,h1,e⟩
     rw[show decide (q.von≤t)=decide (q.von≤t - 1) from decide_eq_decide.2 (by omega),show decide (t<q.bis)=decide (t - 1<q.bis) from decide_eq_decide.2 (by omega)]
    have e1:(decide (q.von≤t)&&decide (t<q.bis))=false:=by
     rw[Bool.and_eq_false_iff,decide_eq_false_iff_not,decide_eq_false_iff_not];omega
    have e2:(decide (q.von≤t - 1)&&decide (t - 1<q.bis))=false:=by
     rw[Bool.and_eq_false_iff,decide_eq_false_iff_not,decide_eq_false_iff_not];omega
    rw[e1,e2]
  simp only[this]
def Inv4(l:List Kwg)(S:SQ):Prop:=∀ k q,mGet S k=some q→q.giv=true→∃ a∈l,a.At=q.von
theorem Inv4.run{l:List Kwg}:∀ (L:List Kwg) {S:SQ},(∀ a∈L,a∈l)→Inv4 l S→Inv4 l (runS R L S)
 | [],S,_,h=>h
 | a :: L,S,hl,h=>Inv4.run L (fun x hx=>hl x (mCo _ hx)) (by
   show Inv4 l (stepS R a S).2
   intro k q hq hg
   rcases Lko R a S with e | ⟨x,_,_,_,_,e⟩ | ⟨q0,q',_,e1,e2,e⟩
   ·rw[e] at hq;exact h k q hq hg
   ·rw[e,Kua] at hq
    split at hq
    ·cases hq;cases hg
    exact h k q hq hg
   rw[e,Kua] at hq
   split at hq
   ·cases hq
    rcases Lke e2 with⟨w,rfl⟩ | ⟨w,rfl⟩ | ⟨w,_,rfl⟩
    ·unfold agreeQ at hg ⊢
     cases hN:((q0.yes++[a.By]).length:Int)==q0.acc.Need
     ·rw[hN] at hg
      have:=(Lkf w).2
      simp only[cond_false] at hg
      rw[this] at hg;cases hg
     exact⟨a,hl a mCs,rfl⟩
    ·exact h _ q0 e1 hg
    exact h _ q0 e1 hg
   exact h k q hq hg)
theorem Lhj{l:List Kwg}{k:Str}:∀ (L:List Kwg) {S:SQ} {q:Rq},(∀ a∈L,a∈l)→mGet S k=some q→q.giv=true→∃ q',mGet (runS R L S) k=some q'∧(q'.bis=q.bis∨∃ a∈l,a.At=q'.bis)
 | [],S,q,_,h,_=>⟨q,h,.inl rfl⟩
 | a :: L,S,q,hl,h,hg=>by
  have hL:∀ b∈L,b∈l:=fun x hx=>hl x (mCo _ hx)
  have next:∃ q1,mGet (stepS R a S).2 k=some q1∧q1.giv=true∧(q1.bis=q.bis∨∃ a∈l,a.At=q1.bis):=by
   rcases Lko R a S with e | ⟨x,_,e0,_,_,e⟩ | ⟨q0,q',_,e1,e2,e⟩
   ·exact⟨q,by rw[e];exact h,hg,.inl rfl⟩
   ·rw[e,Kua]
    by_cases hk:k=a.Key
    ·rw[hk,e0] at h;cases h
    rw[show(k==a.Key)=false by simpa using hk]
    exact⟨q,h,hg,.inl rfl⟩
   rw[e,Kua]
   by_cases hk:k=a.Key
   ·rw[show(k==a.Key)=true by simpa using hk]
    rw[hk,e1] at h
    cases h
    refine⟨q',rfl,?_⟩
    rcases Lke e2 with⟨w,rfl⟩ | ⟨w,rfl⟩ | ⟨w,_,rfl⟩
    ·rw[(Lkf w).2] at hg;cases hg
    ·rw[(Lkf w).2] at hg;cases hg
    exact⟨hg,.inr ⟨a,hl a mCs,rfl⟩⟩
   rw[show(k==a.Key)=false by simpa using hk]
   exact⟨q,h,hg,.inl rfl⟩
  obtain⟨q1,h1,h2,h3⟩:=next
  obtain⟨q2,h4,h5⟩:=Lhj L hL h1 h2
  refine⟨q2,h4,?_⟩
  rcases h5 with h5 | h5
  ·rcases h3 with h3 | ⟨b,hb,h3⟩
   ·exact .inl (h5.trans h3)
   exact .inr ⟨b,hb,h3.trans h5.symm⟩
  exact .inr h5
theorem Lhk{l:List Kwg}(hr:Rise l)(ha:∀ a∈l,a.At<345686400){t:Int}(hc:fkG t (stA R l 345686400)≠fkG (t - 1) (stA R l 345686400)) :
  ∃ a∈l,t=a.At∨∃ r∈reqL a.At (stA R l a.At),r.To=t:=by
 obtain⟨k,q,h1,h2,h3,h4⟩:=Lhi (Lil l _) hc
 have hI:Inv4 l (stA R l 345686400):=Inv4.run _ (fun a h=>(List.mem_filter.1 h).1) fun k q h=>by cases h
 obtain⟨a,a1,a2⟩:=hI k q h1 h2
 rcases h4 with h4 | h4
 ·exact⟨a,a1,.inl (by omega)⟩
 ·have hga:GA q.von (stA R l 345686400) k=some ⟨q.node,q.post⟩:=by
   unfold GA
   rw[h1]
   have:gB q.von q=true:=by unfold gB;rw[h2,dT (Int.le_refl _),dT h3];rfl
   simp only[this,cond_true]
  rw[Lhg hr ha] at hga
  unfold GA at hga
  cases hg:mGet (stA R l q.von) k with
  | none=>rw[hg] at hga;cases hga
  | some q2=>
   rw[hg] at hga
   simp only at hga
   cases hb:gB q.von q2 with
   | false=>rw[hb] at hga;cases hga
   | true=>
    have hg2:q2.giv=true:=by
     unfold gB at hb
     simp only[Bool.and_eq_true] at hb
     exact hb.1
    obtain⟨q3,e1,e2⟩:=Lhj (R:=R) (l:=l) (k:=k) (l.filter fun a=>decide (q.von<a.At)) (fun b hb=>(List.mem_filter.1 hb).1) hg hg2
    rw[←Lhf hr ha q.von,h1] at e1
    cases e1
    rcases e2 with e2 | ⟨b,b1,b2⟩
    ·refine⟨a,a1,.inr ⟨mkR a.At q2,?_,?_⟩⟩
     ·rw[a2]
      exact List.mem_map.2 ⟨(k,q2),Ktw hg,rfl⟩
     ·show q2.bis=t
      omega
    ·exact⟨b,b1,.inl (by omega)⟩
end
def pEnd(Z:SQ)(t x:Int):Bool:=(decide (x>t)&&decide (x<345686400))&&!decide (fkG x Z=fkG (x - 1) Z)
theorem Lhl{p:Int→Bool}{a b:List Int}(ha:a.Pairwise (· < ·))(hb:b.Pairwise (· < ·))(h1:∀ x,p x=true→x∈a)(h2:∀ x,p x=true→x∈b):a.find? p=b.find? p:=by
 rw[←List.head?_filter,←List.head?_filter]
 congr 1
 refine Ksu (ha.sublist List.filter_sublist) (hb.sublist List.filter_sublist) fun x=>?_
 rw[List.mem_filter,List.mem_filter]
 exact⟨fun h=>⟨h2 x h.2,h.2⟩,fun h=>⟨h1 x h.2,h.2⟩⟩
end Go.Gk
namespace Go.Gk
theorem Ljd{α:Type}[DecidableEq α]{f:Nat→α→Unit→Option (LS Unit Bool)}{a b:List α}(hf:∀ i x y,b[i]?=some y→f i x ()=some (if x=y then .go () else .out false)) :
  (bif ((a.length:Int):Int) != (b.length:Int) then(some false) else(bi (rangeM f 0 a ()) fun q=>goI q fun a8=>some true))=some (decide (a=b)):=by
 by_cases hl:a.length=b.length
 ·rw[show(((a.length:Int):Int) != (b.length:Int))=false by simp[hl],cond_false]
  have key:∀ (l l':List α) (i:Nat),l.length=l'.length→(∀ j y,l'[j]?=some y→b[i+j]?=some y)→rangeM f i l ()=some (if l=l' then .go () else .out false):=by
   intro l
   induction l with
   | nil=>
    intro l' i h1 h2
    cases l' with
    | nil=>rfl
    | cons y r=>simp at h1
   | cons x l ih=>
    intro l' i h1 h2
    cases l' with
    | nil=>simp at h1
    | cons y r=>
     have hy:=h2 0 y rfl
     rw[Nat.add_zero] at hy
     simp only[rangeM,hf i x y hy]
     by_cases e:x=y
     ·subst e
      rw[if_pos rfl]
      simp only
      rw[ih r (i+1) (by simpa using h1) fun j z hz=>by rw[show i+1+j=i+(j+1) by omega];exact h2 (j+1) z (by simpa using hz)]
      by_cases e2:l=r
      ·rw[if_pos e2,if_pos (by rw[e2])]
      ·rw[if_neg e2,if_neg (by simpa using e2)]
     ·rw[if_neg e,if_neg (by intro e2;injection e2;contradiction)]
  rw[key a b 0 hl fun j y hy=>by rw[Nat.zero_add];exact hy]
  by_cases e:a=b
  ·rw[if_pos e,dT e];rfl
  ·rw[if_neg e,dF e];rfl
 ·rw[show(((a.length:Int):Int) != (b.length:Int))=true by simp;omega,cond_true,dF fun e=>hl (by rw[e])]
theorem Llk(a b:List Kwl):Kyk a b=some (decide (a=b)):=by
 unfold Kyk
 refine Ljd (a:=a) (b:=b) fun i x y hy=>?_
 rw[Kvu hy,bi_some]
 by_cases e:x=y
 ·subst e;rw[if_pos rfl];simp
 rw[if_neg e,show(((x.Node:Str)==y.Node)&&(((x.Posture:Str)==y.Posture)&&true))=false by
  rw[←Bool.not_eq_true]
  intro h
  simp only[Bool.and_true,Bool.and_eq_true,beq_iff_eq] at h
  exact e (by cases x;cases y;simp_all)]
 rfl
theorem Lje{α ρ:Type}(p:α→Bool)(g:α→ρ){f:Nat→Unit→Option (LS Unit ρ)}(M:List α)(hf:∀ i x,M[i]?=some x→f i ()=some (if p x then .out (g x) else .go ())) :
  (M.find? p=none∧rangeI f (M.length:Int) ()=some (.go ()))∨∃ x,M.find? p=some x∧rangeI f (M.length:Int) ()=some (.out (g x)):=by
 have key:∀ (L:List α) (i:Nat),(∀ j x,L[j]?=some x→M[i+j]?=some x)→
   (L.find? p=none∧rangeM (fun i (_:Unit) s=>f i s) i (List.replicate L.length ()) ()=some (.go ()))∨∃ x,L.find? p=some x∧rangeM (fun i (_:Unit) s=>f i s) i (List.replicate L.length ()) ()=some (.out (g x)):=by
  intro L
  induction L with
  | nil=>intro i _;exact .inl ⟨rfl,rfl⟩
  | cons x L ih=>
   intro i h
   have h0:=hf i x (by have:=h 0 x rfl;simpa using this)
   cases hp:p x with
   | true=>
    refine .inr ⟨x,by simp[hp],?_⟩
    simp[List.replicate_succ,rangeM,h0,hp]
   | false=>
    have e:rangeM (fun i (_:Unit) s=>f i s) i (List.replicate (x :: L).length ()) ()=rangeM (fun i (_:Unit) s=>f i s) (i+1) (List.replicate L.length ()) ():=by simp[List.replicate_succ,rangeM,h0,hp]
    rcases ih (i+1) (fun j y hy=>by rw[show i+1+j=i+(j+1) by omega];exact h (j+1) y (by simpa using hy)) with⟨h1,h2⟩ | ⟨y,h1,h2⟩
    ·exact .inl ⟨by simp[hp,h1],by rw[e,h2]⟩
    ·exact .inr ⟨y,by simp[hp,h1],by rw[e,h2]⟩
 unfold rangeI
 rw[Int.toNat_natCast]
 exact key M 0 fun j x h=>by rw[Nat.zero_add];exact h
theorem Ljf{α:Type}{p:α→Bool}{M:List α}{x:α}(h:M.find? p=some x):p x=true:=List.find?_some h
section
variable{R:List Kwf}
def cQ(q:Rq):List Int:=bif q.giv then[q.von,q.bis] else[]
theorem Ljg(q:Rq):(cQ q).length≤2:=by unfold cQ;cases q.giv<;>simp
theorem Ljh{a b:List Int}(h:a.Perm b):rise a=rise b:=Ksu (Ksw a) (Ksw b) fun x=>by rw[Ksx,Ksx,h.mem_iff]
theorem Lji{l:List Kwg}(hl:l.length≤200)(hr:Rise l)(ha:∀ a∈l,a.At<345686400){t:Int}(ht:0≤t∧t<345686400){al:BagT}(hF:FrB al){k:Nat}(hk:900000≤k)(h0:Kxo k R l=some 0)(h1:Kxz t=some 0) :
  ∃ (L:List Int) (al':BagT),Kyl k R l t al=some ((L.find? (pEnd (stA R l 345686400) t)).getD 0,(L.find? (pEnd (stA R l 345686400) t)).isSome,0,al')∧FrB al'∧L.Pairwise (· < ·)∧∀ x,pEnd (stA R l 345686400) t x=true→x∈L:=by
 obtain⟨⟨a0,a1,a2⟩,m,e1,e2,e3⟩:=Lkt (R:=R) (l:=l) (by omega) 345686400 hF
 simp only at e2
 have hlen:m.length≤200:=by
  rw[←e2.len]
  refine Nat.le_trans (Lki _) ?_
  have:=List.length_filter_le (fun a:Kwg=>decide (a.At≤345686400)) l
  simp only[List.length_nil];omega
 have hfl:(m.flatMap fun e=>cQ (vwP ((hGet a1 e.2).getD zP))).length≤4000:=by
  have:∀ L:List (Str×Nat),(L.flatMap fun e=>cQ (vwP ((hGet a1 e.2).getD zP))).length≤2 * L.length:=by
   intro L
   induction L with
   | nil=>simp
   | cons e L ih=>
    rw[List.flatMap_cons,List.length_append,List.length_cons]
    have:=Ljg (vwP ((hGet a1 e.2).getD zP))
    omega
  have:=this m
  omega
 refine⟨rise (m.flatMap fun e=>cQ (vwP ((hGet a1 e.2).getD zP))),(a0,a1,a2),?_,e3,Ksw _,fun x hx=>?_⟩
 ·unfold Kyl
  rw[h0,bi_some]
  simp only[bne_self_eq_false,cond_false]
  rw[h1,bi_some]
  simp only[bne_self_eq_false,cond_false]
  rw[e1,bi_some]
  simp only
  refine Lkd (fun e=>cQ (vwP ((hGet a1 e.2).getD zP))) (fun e he=>⟨Ljg _,fun s hs=>?_⟩) (by omega) fun r hp=>?_
  ·obtain⟨x,x1,x2,x3,x4⟩:=e2.ent he
   have hb0:Nat.blt 0 e.2=true:=by simpa [Nat.blt_eq] using x2
   simp only[hb0,gd_true,x1,bi_some,Option.getD_some]
   show _=some (s++bif x.given then[x.v_from,x.to] else[])
   rw[Kux (by simp;omega)]
   cases x.given<;>simp
  ·have hlr:r.length≤4000:=by rw[hp.length_eq];exact hfl
   obtain⟨r1,r2⟩:=Ksy k r (by omega) (by omega)
   rw[r1,bi_some,show decide ((r.mergeSort fun x y=>decide (x≤y)).length=r.length)=true by simp,gd_true,r2,bi_some,Ljh hp]
   have hLl:(rise (m.flatMap fun e=>cQ (vwP ((hGet a1 e.2).getD zP)))).length≤4000:=by
    unfold rise
    exact Nat.le_trans (Ksq _ _) hfl
   rw[dT (by omega),gd_true]
   generalize hL:rise (m.flatMap fun e=>cQ (vwP ((hGet a1 e.2).getD zP)))=L at *
   rcases Lje (pEnd (stA R l 345686400) t) (fun x=>(x,true,(0:Int),((a0,a1,a2):BagT))) (f:=fun i31 s32=>bi (getZ L (i31:Int)) fun x43=>bi (bif ((decide ((x43:Int)>t))&&(decide ((x43:Int)<345686400))) then(bi (Kyh k ⟨R,m⟩ x43 (a0,a1,a2)) fun y49=>bi (Kyh k ⟨R,m⟩ (wi (x43 - 1)) (a0,a1,a2)) fun y51=>bi (Kyk y49 y51) fun y53=>some (!y53)) else(some false)) fun q46=>bif q46 then(bi (some (x43,true,(0:Int),((a0,a1,a2):BagT))) fun v=>some (.out v)) else(some (.go ()))) L (fun i x hx=>by
     rw[Kvu hx,bi_some]
     unfold pEnd
     cases hc:(decide (x>t)&&decide (x<345686400)) with
     | false=>rfl
     | true=>
      have hw:wi (x - 1)=x - 1:=by
       rw[Bool.and_eq_true] at hc
       have h1:=of_decide_eq_true hc.1
       have h2:=of_decide_eq_true hc.2
       exact Kuq (by omega) (by omega)
      simp only[cond_true,Bool.true_and]
      rw[hw,Lih (al:=(a0,a1,a2)) e2 (by omega) (by omega) x R,bi_some,Lih (al:=(a0,a1,a2)) e2 (by omega) (by omega) (x - 1) R,bi_some,Llk,bi_some,bi_some]
      cases decide (fkG x (stA R l 345686400)=fkG (x - 1) (stA R l 345686400))<;>rfl) with⟨f1,f2⟩ | ⟨x,f1,f2⟩
   ·rw[f2,f1];rfl
   ·rw[f2,f1];rfl
 ·rw[Ksx]
  unfold pEnd at hx
  simp only[Bool.and_eq_true,Bool.not_eq_true',decide_eq_true_eq,decide_eq_false_iff_not] at hx
  obtain⟨key,q,q1,q2,q3,q4⟩:=Lhi (Lil l _) hx.2
  rcases e2.at key with⟨g1,_⟩ | ⟨n,y,g1,g2,g3,g4,g5,g6⟩
  ·rw[q1] at g1;cases g1
  ·rw[q1] at g1
   rw[List.mem_flatMap]
   refine⟨(key,n),Ktw g3,?_⟩
   simp only[g5,Option.getD_some]
   rw[←oSi g1]
   unfold cQ
   rw[q2]
   rcases q4 with q4 | q4<;>simp[q4]
theorem Ljj{l:List Kwg}(hl:l.length≤200)(hk:Kd l)(hr:Rise l)(ha:∀ a∈l,0≤a.At∧a.At<345686400){al:BagT}(hF:FrB al){k:Nat}(hkk:900000≤k) :
  ∃ (L:List Int) (al':BagT),Kze k l R al=some (L,al')∧FrB al'∧L.Pairwise (· < ·)∧(∀ x∈L,x<345686400)∧∀ a∈l,a.At∈L∧∀ r∈reqL a.At (stA R l a.At),0<r.To→r.To<345686400→r.To∈L:=by
 have inner:∀ (Q:List Kwk) (i:Nat) (acc:List Int),acc.length+Q.length≤1000000→
   ∃ r,rangeF (σ:=List Int) (fun i16 x18 s17=>bif ((decide ((x18.To:Int)>0))&&(decide ((x18.To:Int)<345686400))) then(bi (apd s17 [x18.To]) fun y28=>some y28) else(some s17)) i Q acc=some r∧r.length≤acc.length+Q.length∧∀ x,x∈r ↔ x∈acc∨∃ q∈Q,0<q.To∧q.To<345686400∧x=q.To:=by
  intro Q
  induction Q with
  | nil=>intro i acc _;exact⟨acc,rfl,by simp,fun x=>by simp⟩
  | cons q Q ih=>
   intro i acc hb
   simp only[List.length_cons] at hb
   simp only[rangeF]
   cases hc:(decide ((q.To:Int)>0)&&decide ((q.To:Int)<345686400)) with
   | true=>
    have hq:0<q.To∧q.To<345686400:=by simpa using hc
    simp only[cond_true]
    rw[Kux (by simp;omega),bi_some,bi_some]
    obtain⟨r,r1,r2,r3⟩:=ih (i+1) (acc++[q.To]) (by simp;omega)
    refine⟨r,r1,by simp at r2 ⊢;omega,fun x=>?_⟩
    rw[r3]
    simp only[List.mem_append,List.mem_singleton,List.mem_cons,exists_eq_or_imp,or_assoc,hq,true_and,List.not_mem_nil,false_or]
   | false=>
    have hq:¬ (0<q.To∧q.To<345686400):=by
     intro h
     rw[dT h.1,dT h.2] at hc;cases hc
    simp only[cond_false,bi_some]
    obtain⟨r,r1,r2,r3⟩:=ih (i+1) acc (by omega)
    refine⟨r,r1,by simp at r2 ⊢;omega,fun x=>?_⟩
    rw[r3]
    simp only[List.mem_cons,exists_eq_or_imp]
    constructor
    ·rintro(h | h)
     ·exact .inl h
     ·exact .inr (.inr h)
    ·rintro(h | ⟨h1,h2,_⟩ | h)
     ·exact .inl h
     ·exact absurd ⟨h1,h2⟩ hq
     ·exact .inr h
 have hlq:∀ t,(reqL t (stA R l t)).length≤200:=fun t=>by
  unfold reqL
  rw[List.length_map]
  refine Nat.le_trans (Lki _) ?_
  have:=List.length_filter_le (fun a:Kwg=>decide (a.At≤t)) l
  simp only[List.length_nil];omega
 have outer:∀ (L:List Kwg) (i:Nat) (al:BagT) (acc:List Int),FrB al→acc.length+201 * L.length≤900000→
   ∃ r al',rangeF (σ:=BagT×(List Int)) (fun i1 x3 s2=>bi (apd s2.2 [x3.At]) fun y12=>bi (Kzd R l x3.At s2.1) fun y14=>bi (rangeF (σ:=List Int) (fun i16 x18 s17=>bif ((decide ((x18.To:Int)>0))&&(decide ((x18.To:Int)<345686400))) then(bi (apd s17 [x18.To]) fun y28=>some y28) else(some s17)) 0 y14.1 y12) fun q19=>some (y14.2,q19)) i L (al,acc)=some (al',r)∧FrB al'∧r.length≤acc.length+201 * L.length∧
    ∀ x,x∈r ↔ x∈acc∨∃ a∈L,x=a.At∨∃ q∈reqL a.At (stA R l a.At),0<q.To∧q.To<345686400∧x=q.To:=by
  intro L
  induction L with
  | nil=>intro i al acc h _;exact⟨acc,al,rfl,h,by simp,fun x=>by simp⟩
  | cons a L ih=>
   intro i al acc h hb
   simp only[List.length_cons] at hb
   simp only[rangeF]
   rw[Kux (by simp;omega),bi_some]
   obtain⟨al1,e1,e2⟩:=Lkm (R:=R) (l:=l) (by omega) hk hr a.At h
   rw[e1,bi_some]
   have hq:=hlq a.At
   obtain⟨r1,f1,f2,f3⟩:=inner (reqL a.At (stA R l a.At)) 0 (acc++[a.At]) (by simp;omega)
   simp only
   rw[f1,bi_some,bi_some]
   simp only[List.length_append,List.length_singleton] at f2
   obtain⟨r2,al2,g1,g2,g3,g4⟩:=ih (i+1) al1 r1 e2 (by omega)
   refine⟨r2,al2,g1,g2,by simp only[List.length_cons];omega,fun x=>?_⟩
   rw[g4,f3]
   simp only[List.mem_append,List.mem_singleton,List.mem_cons,exists_eq_or_imp,or_assoc,List.not_mem_nil,false_or]
 obtain⟨r,al',e1,e2,e3,e4⟩:=outer l 0 al [] hF (by simp;omega)
 simp only[List.length_nil] at e3
 obtain⟨r1,r2⟩:=Ksy k r (by omega) (by omega)
 refine⟨rise r,al',?_,e2,Ksw r,fun x hx=>?_,fun a h=>⟨?_,fun q hq h1 h2=>?_⟩⟩
 ·unfold Kze
  rw[e1,bi_some]
  simp only
  rw[r1,bi_some,show decide ((r.mergeSort fun x y=>decide (x≤y)).length=r.length)=true by simp,gd_true,r2,bi_some]
 ·rw[Ksx,e4] at hx
  rcases hx with hx | ⟨a,h1,h2 | ⟨q,_,_,h3,h4⟩⟩
  ·cases hx
  ·have:=(ha a h1).2;omega
  ·omega
 ·rw[Ksx,e4]
  exact .inr ⟨a,h,.inl rfl⟩
 ·rw[Ksx,e4]
  exact .inr ⟨a,h,.inr ⟨q,hq,h1,h2,rfl⟩⟩
theorem Ljk{l:List Kwg}(hl:l.length≤200)(hk:Kd l)(hr:Rise l)(ha:∀ a∈l,0≤a.At∧a.At<345686400){t:Int}(ht:0≤t∧t<345686400){al:BagT}(hF:FrB al){k:Nat}(hkk:900000≤k) :
  ∃ (L:List Int) (al':BagT),Kzh k R l t al=some ((L.find? (pEnd (stA R l 345686400) t)).getD 0,(L.find? (pEnd (stA R l 345686400) t)).isSome,al')∧FrB al'∧L.Pairwise (· < ·)∧∀ x,pEnd (stA R l 345686400) t x=true→x∈L:=by
 obtain⟨L,al1,e1,e2,e3,e4,e5⟩:=Ljj (R:=R) hl hk hr ha hF hkk
 have hae:∀ a∈l,a.At<345686400:=fun a h=>(ha a h).2
 have loop:∀ (M:List Int) (i:Nat) (al:BagT),FrB al→(∀ x∈M,x<345686400)→
   ∃ al',FrB al'∧((M.find? (pEnd (stA R l 345686400) t)=none∧rangeM (σ:=BagT) (ρ:=Int×Bool×BagT) (fun i3 x5 s4=>bi (bif decide ((x5:Int)>t) then(bi (Kzg k R l x5 s4) fun y17=>bi (Kzg k R l (wi (x5 - 1)) y17.2) fun y19=>bi (Kyk y17.1 y19.1) fun y21=>some (y19.2,!y21)) else(some (s4,false))) fun q14=>bif q14.2 then(bi (some (x5,true,q14.1)) fun v=>some (.out v)) else(some (.go q14.1))) i M al=some (.go al'))∨
    ∃ x,M.find? (pEnd (stA R l 345686400) t)=some x∧rangeM (σ:=BagT) (ρ:=Int×Bool×BagT) (fun i3 x5 s4=>bi (bif decide ((x5:Int)>t) then(bi (Kzg k R l x5 s4) fun y17=>bi (Kzg k R l (wi (x5 - 1)) y17.2) fun y19=>bi (Kyk y17.1 y19.1) fun y21=>some (y19.2,!y21)) else(some (s4,false))) fun q14=>bif q14.2 then(bi (some (x5,true,q14.1)) fun v=>some (.out v)) else(some (.go q14.1))) i M al=some (.out (x,true,al'))):=by
  intro M
  induction M with
  | nil=>intro i al h _;exact⟨al,h,.inl ⟨rfl,rfl⟩⟩
  | cons x M ih=>
   intro i al h hb
   have hx:=hb x mCs
   have hM:∀ y∈M,y<345686400:=fun y hy=>hb y (mCo _ hy)
   by_cases hxt:x>t
   ·have hw:wi (x - 1)=x - 1:=Kuq (by omega) (by omega)
    obtain⟨al2,g1,g2⟩:=Lin (R:=R) (l:=l) (by omega) hk hr x h (k:=k) (by omega)
    obtain⟨al3,g3,g4⟩:=Lin (R:=R) (l:=l) (by omega) hk hr (x - 1) g2 (k:=k) (by omega)
    have hp:pEnd (stA R l 345686400) t x=!decide (fkG x (stA R l x)=fkG (x - 1) (stA R l (x - 1))):=by
     unfold pEnd
     rw[dT hxt,dT hx,Lhh hr hae x,Lhh hr hae (x - 1)]
     rfl
    simp only[rangeM,decide_eq_true hxt,cond_true,g1,bi_some,hw,g3,Llk]
    rw[←hp]
    cases hq:pEnd (stA R l 345686400) t x with
    | true=>exact⟨al3,g4,.inr ⟨x,by simp[hq],rfl⟩⟩
    | false=>
     simp only[cond_false]
     obtain⟨al4,h1,h2⟩:=ih (i+1) al3 g4 hM
     refine⟨al4,h1,?_⟩
     rw[show(x :: M).find? (pEnd (stA R l 345686400) t)=M.find? (pEnd (stA R l 345686400) t) by simp[hq]]
     simp only[Llk,bi_some] at h2 ⊢
     exact h2
   ·have hq:pEnd (stA R l 345686400) t x=false:=by unfold pEnd;rw[dF hxt];rfl
    simp only[rangeM,decide_eq_false hxt,cond_false,bi_some]
    obtain⟨al4,h1,h2⟩:=ih (i+1) al h hM
    refine⟨al4,h1,?_⟩
    rw[show(x :: M).find? (pEnd (stA R l 345686400) t)=M.find? (pEnd (stA R l 345686400) t) by simp[hq]]
    simp only[Llk,bi_some] at h2 ⊢
    exact h2
 obtain⟨al',h1,h2⟩:=loop L 0 al1 e2 e4
 refine⟨L,al',?_,h1,e3,fun x hx=>?_⟩
 ·unfold Kzh
  rw[e1,bi_some]
  simp only
  rcases h2 with⟨f1,f2⟩ | ⟨x,f1,f2⟩
  ·rw[f2,f1];rfl
  ·rw[f2,f1];rfl
 ·unfold pEnd at hx
  simp only[Bool.and_eq_true,Bool.not_eq_true',decide_eq_true_eq,decide_eq_false_iff_not] at hx
  obtain⟨a,a1,a2 | ⟨r,r1,r2⟩⟩:=Lhk hr hae hx.2
  ·rw[a2];exact(e5 a a1).1
  ·have:=(e5 a a1).2 r r1 (by omega) (by omega)
   rw[←r2];exact this
end
end Go.Gk
namespace Go.Gk
theorem Lhm{α:Type}{f:Nat→α→Unit→Option (LS Unit Int)}:∀ (l:List α) (i:Nat) (E:Nat→α→Int) (h:∀ j x,l[j]?=some x→f (i+j) x ()=some (if E (i+j) x=0 then .go () else .out (E (i+j) x))),
  ∃ r:Int,rangeM f i l ()=some (if r=0 then .go () else .out r)∧(r=0→∀ j x,l[j]?=some x→E (i+j) x=0)
 | [],i,E,h=>⟨0,rfl,fun _ j x hx=>by simp at hx⟩
 | x :: l,i,E,h=>by
  have h0:=h 0 x rfl
  simp only[Nat.add_zero] at h0
  by_cases he:E i x=0
  ·rw[if_pos he] at h0
   obtain⟨r,h1,h2⟩:=Lhm l (i+1) E (fun j y hy=>by
    have:=h (j+1) y hy
    rw[show i+(j+1)=i+1+j by omega] at this
    exact this)
   refine⟨r,by simp only[rangeM,h0];exact h1,fun hr j y hy=>?_⟩
   cases j with
   | zero=>
    simp at hy
    subst hy
    exact he
   | succ j=>
    have:=h2 hr j y (by simpa using hy)
    rw[show i+(j+1)=i+1+j by omega]
    exact this
  ·rw[if_neg he] at h0
   exact⟨E i x,by simp only[rangeM,h0,if_neg he],fun hr=>absurd hr he⟩
def momB(n:Int):Bool:=decide (n≥0)&&decide (n<345686400)
theorem Lhn(n:Int):Kxh n=some (momB n)∧Kys n=some (momB n):=by
 refine⟨rfl,?_⟩
 unfold Kys
 rw[Kak]
 simp only[bi_some]
 congr 1
 unfold momB
 rw[Bool.eq_iff_iff]
 simp only[decide_eq_true_eq,Bool.and_eq_true]
 omega
def momE(n:Int):Int:=if momB n then 0 else 1
theorem Lho(n:Int):Kxz n=some (momE n)∧Kyw n=some (momE n):=by
 unfold Kxz Kyw momE
 rw[(Lhn n).1,(Lhn n).2]
 simp only[bi_some]
 cases momB n<;>exact⟨rfl,rfl⟩
theorem Lhp{n:Int}(h:momE n=0):0≤n∧n<345686400:=by
 unfold momE at h
 cases hm:momB n with
 | false=>rw[hm] at h;cases h
 | true=>unfold momB at hm;simpa using hm
theorem Lhq{α:Type}{f g:Nat→α→Unit→Option (LS Unit Int)}:∀ (l:List α) (i:Nat),(∀ x∈l,∀ j,f j x ()=g j x ())→rangeM f i l ()=rangeM g i l ()
 | [],i,_=>rfl
 | x :: l,i,h=>by
  simp only[rangeM,h x List.mem_cons_self i]
  cases g i x () with
  | none=>rfl
  | some y=>cases y with
   | go s=>exact Lhq l (i+1) fun y hy=>h y (mCo _ hy)
   | out v=>rfl
theorem Lhr{c:Prop}[Decidable c]{a b:Int}(h:c):(if c then a else b)=a:=if_pos h
theorem Lhs{c:Prop}[Decidable c]{a b:Int}(h:¬ c):(if c then a else b)=b:=if_neg h
def ordE(a b:Str):Bool:=Op.bytesLess b a||(b:Str)==a
theorem Lht{a b:Str}(h:ordE a b=false):Op.bytesLess a b=true:=by
 unfold ordE at h
 rw[Bool.or_eq_false_iff] at h
 cases hb:Op.bytesLess a b with
 | true=>rfl
 | false=>have:=Ktr b a h.1 hb;simp[this] at h
theorem Lhu:∀ {l:List Str},(∀ i (hi:i+1<l.length),Op.bytesLess l[i] l[i+1]=true)→l.Nodup:=by
 intro l adj
 have hp:l.Pairwise fun a b=>Op.bytesLess a b=true:=List.pairwise_iff_getElem.2 fun i j hi hj hij=>by
  obtain⟨d,rfl⟩:∃ d,j=i+1+d:=⟨j - (i+1),by omega⟩
  clear hij
  induction d with
  | zero=>exact adj i hj
  | succ d ih=>exact Ktq _ _ _ (ih (by omega)) (adj (i+1+d) hj)
 exact hp.imp fun {a b} h e=>by rw[e,Ktp] at h;cases h
theorem Lhv(k:Nat)(hk:2000<k)(l:List Str)(hl:l.length≤1000)(hs:∀ x∈l,x.length≤1000):∃ e,Kxe k l=some e∧Kyp l=some e∧(e=0→l.Nodup):=by
 obtain⟨r,h1,h2⟩:=Lhm (f:=fun i1 x3 s2=>bi (Kxd k x3) fun y12=>bif !y12 then(bi (some 5) fun v=>some (.out v)) else(bi (bif decide (((i1:Int):Int)>0) then(bi (getZ l (wi ((i1:Int) - 1))) fun x21=>some (Op.bytesLess x3 x21||(x3:Str)==x21)) else(some false)) fun q18=>bif q18 then(bi (some 7) fun v=>some (.out v)) else(some (.go ())))) l 0
  (fun i x=>if !keyB x then 5 else if 0<i∧ordE (l.getD (i - 1) []) x=true then 7 else 0) (fun j x hx=>by
   have hj:=(gEs.1 hx).1
   simp only[Nat.zero_add]
   rw[keyP k x (by have:=hs x (mOg hx);omega) (by have:=hs x (mOg hx);omega),bi_some]
   cases keyB x with
   | false=>rfl
   | true=>
    simp only[Bool.not_true,cond_false,Bool.false_eq_true,if_false]
    by_cases h0:0<j
    ·rw[dT (show(j:Int)>0 by omega),cond_true,Kuq (by omega) (by omega),show(j:Int) - 1=((j - 1:Nat):Int) by omega,Kvu (gGe (show j - 1<l.length by omega)),bi_some,bi_some]
     rw[List.getD_eq_getElem?_getD,gGe (show j - 1<l.length by omega),Option.getD_some]
     show(bif ordE l[j - 1] x then _ else _)=_
     cases ho:ordE l[j - 1] x with
     | true=>simp[h0]
     | false=>simp
    rw[dF (show ¬ (j:Int)>0 by omega),cond_false,bi_some,cond_false,Lhs (fun h=>h0 h.1)];rfl)
 have h1':rangeM (σ:=Unit) (ρ:=Int) (fun i1 x3 s2=>bi (Kyo x3) fun y12=>bif !y12 then(bi (some 5) fun v=>some (.out v)) else(bi (bif decide (((i1:Int):Int)>0) then(bi (getZ l (wi ((i1:Int) - 1))) fun x21=>some (Op.bytesLess x3 x21||(x3:Str)==x21)) else(some false)) fun q18=>bif q18 then(bi (some 7) fun v=>some (.out v)) else(some (.go ())))) 0 l ()=some (if r=0 then .go () else .out r):=by
  rw[←h1]
  refine Lhq l 0 fun x hx j=>?_
  have:=hs x hx
  rw[keyP k x (by omega) (by omega),keyR x (by omega)]
 refine⟨r,?_,?_,fun hr=>Lhu fun i hi=>?_⟩
 ·unfold Kxe
  rw[h1]
  by_cases hr:r=0
  ·rw[if_pos hr,hr];rfl
  rw[if_neg hr];rfl
 ·unfold Kyp
  rw[h1']
  by_cases hr:r=0
  ·rw[if_pos hr,hr];rfl
  rw[if_neg hr];rfl
 have:=h2 hr (i+1) l[i+1] (gGe hi)
 simp only[Nat.zero_add] at this
 split at this
 ·cases this
 split at this
 ·cases this
 rename_i h
 rw[List.getD_eq_getElem?_getD,show i+1 - 1=i by omega,gGe (show i<l.length by omega),Option.getD_some] at h
 exact Lht (by cases ho:ordE l[i] l[i+1] with | false=>rfl | true=>exact absurd ⟨by omega,ho⟩ h)
theorem Lhw{α ρ:Type}{f g:Nat→α→Unit→Option (LS Unit ρ)}:∀ (l:List α) (i:Nat),(∀ j x,l[j]?=some x→∃ y,f (i+j) x ()=some y∧g (i+j) x ()=some y)→∃ r,rangeM f i l ()=some r∧rangeM g i l ()=some r
 | [],i,_=>⟨_,rfl,rfl⟩
 | x :: l,i,h=>by
  obtain⟨y,h1,h2⟩:=h 0 x rfl
  rw[Nat.add_zero] at h1 h2
  simp only[rangeM,h1,h2]
  cases y with
  | out r=>exact⟨_,rfl,rfl⟩
  | go s=>exact Lhw l (i+1) fun j y hy=>by rw[show i+1+j=i+(j+1) by omega];exact h (j+1) y (by simpa using hy)
theorem Lhx{α:Type}{f g:Nat→α→Unit→Option (LS Unit Int)}{l:List α}(h:∀ j x,l[j]?=some x→∃ y,f j x ()=some y∧g j x ()=some y) :
  ∃ e,(bi (rangeM (σ:=Unit) (ρ:=Int) f 0 l ()) fun q=>goI q fun a8=>some 0)=some e∧(bi (rangeM (σ:=Unit) (ρ:=Int) g 0 l ()) fun q=>goI q fun a8=>some 0)=some e:=by
 obtain⟨r,r1,r2⟩:=Lhw l 0 (f:=f) (g:=g) fun j x hx=>by rw[Nat.zero_add];exact h j x hx
 rw[r1,r2]
 cases r with
 | go s=>exact⟨0,rfl,rfl⟩
 | out v=>exact⟨v,rfl,rfl⟩
theorem Lhy{α:Type}{P:Prop}{f g:Nat→α→Unit→Option (LS Unit Int)}{l:List α}{E:Nat→α→Int}(hf:∀ j x,l[j]?=some x→f j x ()=some (if E j x=0 then .go () else .out (E j x)))(hg:∀ j x,l[j]?=some x→g j x ()=some (if E j x=0 then .go () else .out (E j x)))(hz:(∀ j x,l[j]?=some x→E j x=0)→P) :
  ∃ e,(bi (rangeM (σ:=Unit) (ρ:=Int) f 0 l ()) fun q=>goI q fun a8=>some 0)=some e∧(bi (rangeM (σ:=Unit) (ρ:=Int) g 0 l ()) fun q=>goI q fun a8=>some 0)=some e∧(e=0→P):=by
 obtain⟨r,r1,r2⟩:=Lhm (f:=f) l 0 E fun j x hx=>by rw[Nat.zero_add];exact hf j x hx
 obtain⟨q,q1,q2⟩:=Lhw l 0 (f:=f) (g:=g) fun j x hx=>by rw[Nat.zero_add];exact⟨_,hf j x hx,hg j x hx⟩
 rw[r1] at q1
 rw[r1,q2,←oSi q1]
 refine⟨r,?_,?_,fun e=>hz fun j x hx=>by have:=r2 e j x hx;rw[Nat.zero_add] at this;exact this⟩
 ·by_cases e:r=0
  ·rw[if_pos e,e];rfl
  ·rw[if_neg e];rfl
 ·by_cases e:r=0
  ·rw[if_pos e,e];rfl
  ·rw[if_neg e];rfl
def inB(n a b:Int):Bool:=decide (a≤n)&&decide (n≤b)
theorem inP(n a b:Int):Kyq n a b=some (inB n a b):=rfl
theorem outP(n a b:Int):Kxf n a b=some (!inB n a b):=by
 unfold Kxf inB
 congr 1
 rw[Bool.eq_iff_iff]
 simp only[Bool.or_eq_true,decide_eq_true_eq,Bool.not_eq_true',Bool.and_eq_false_iff,decide_eq_false_iff_not]
 omega
def AccD(R:List Kwf):Prop:=R.length≤1000∧∀ x∈R,x.Posture.length≤1000∧x.Approvers.length≤1000∧∀ s∈x.Approvers,s.length≤1000
theorem Lhz{k:Nat}(hk:2000<k){R:List Kwf}(h:AccD R):∃ e,Kxg k R=some e∧Kyr R=some e:=by
 unfold Kxg Kyr
 cases hc:decide (((R.length:Int):Int)>100) with
 | true=>exact⟨2,rfl,rfl⟩
 | false=>
  simp only[cond_false]
  have key:∀ (j:Nat) (x:Kwf),R[j]?=some x→∃ y,(bi (Kxd k x.Posture) fun y14=>bif !y14 then(bi (some (5:Int)) fun v=>some (.out v)) else(bi (bif decide (((j:Int):Int)>0) then(bi (getZ R (wi ((j:Int) - 1))) fun x23=>some (Op.bytesLess x.Posture x23.Posture||(x.Posture:Str)==x23.Posture)) else(some false)) fun q20=>bif q20 then(bi (some (7:Int)) fun v=>some (.out v)) else(bif decide (((x.Approvers.length:Int):Int)>200) then(bi (some (2:Int)) fun v=>some (.out v)) else(bi (Kxe k x.Approvers) fun y34=>bif (y34:Int) != 0 then(bi (some y34) fun v=>some (.out v)) else(bi (Kxf x.Need 1 (x.Approvers.length:Int)) fun y40=>bi (bif y40 then(some true) else(bi (Kxf x.Wait 1 345686400) fun y46=>some y46)) fun q42=>bi (bif q42 then(some true) else(bi (Kxf x.Most 1 345686400) fun y52=>some y52)) fun q48=>bif q48 then(bi (some (1:Int)) fun v=>some (.out v)) else(some (LS.go ())))))))=some y∧
    (bi (Kyo x.Posture) fun y14=>bif !y14 then(bi (some (5:Int)) fun v=>some (.out v)) else(bi (bif decide (((j:Int):Int)>0) then(bi (getZ R (wi ((j:Int) - 1))) fun x23=>some (Op.bytesLess x.Posture x23.Posture||(x.Posture:Str)==x23.Posture)) else(some false)) fun q20=>bif q20 then(bi (some (7:Int)) fun v=>some (.out v)) else(bif decide (((x.Approvers.length:Int):Int)>200) then(bi (some (2:Int)) fun v=>some (.out v)) else(bi (Kyp x.Approvers) fun y34=>bif (y34:Int) != 0 then(bi (some y34) fun v=>some (.out v)) else(bi (Kyq x.Need 1 (x.Approvers.length:Int)) fun y40=>bi (bif !y40 then(some true) else(bi (Kyq x.Wait 1 345686400) fun y46=>some (!y46))) fun q42=>bi (bif q42 then(some true) else(bi (Kyq x.Most 1 345686400) fun y52=>some (!y52))) fun q48=>bif q48 then(bi (some (1:Int)) fun v=>some (.out v)) else(some (LS.go ())))))))=some y:=by
   intro j x hx
   have hj:=(gEs.1 hx).1
   have hR:=h.1
   obtain⟨h1,h2,h3⟩:=h.2 x (mOg hx)
   rw[keyP k x.Posture (by omega) (by omega),keyR x.Posture (by omega),bi_some,bi_some]
   cases keyB x.Posture with
   | false=>exact⟨_,rfl,rfl⟩
   | true=>
    simp only[Bool.not_true,cond_false]
    have hord:∃ b,(bif decide (((j:Int):Int)>0) then(bi (getZ R (wi ((j:Int) - 1))) fun x23=>some (Op.bytesLess x.Posture x23.Posture||(x.Posture:Str)==x23.Posture)) else(some false))=some b:=by
     by_cases h0:0<j
     ·rw[dT (show(j:Int)>0 by omega),cond_true,Kuq (by omega) (by omega),show(j:Int) - 1=((j - 1:Nat):Int) by omega,Kvu (gGe (show j - 1<R.length by omega)),bi_some]
      exact⟨_,rfl⟩
     ·rw[dF (show ¬ (j:Int)>0 by omega)]
      exact⟨_,rfl⟩
    obtain⟨b,hb⟩:=hord
    rw[hb,bi_some,bi_some]
    cases b with
    | true=>exact⟨_,rfl,rfl⟩
    | false=>
     simp only[cond_false]
     cases decide (((x.Approvers.length:Int):Int)>200) with
     | true=>exact⟨_,rfl,rfl⟩
     | false=>
      simp only[cond_false]
      obtain⟨e,r1,r2,_⟩:=Lhv k hk x.Approvers h2 h3
      rw[r1,r2]
      simp only[Bool.not_true,cond_false,bi_some,outP,inP]
      cases (e:Int) != 0 with
      | true=>exact⟨_,rfl,rfl⟩
      | false=>
       cases inB x.Need 1 (x.Approvers.length:Int)<;>cases inB x.Wait 1 345686400<;>cases inB x.Most 1 345686400<;>exact⟨_,rfl,rfl⟩
  exact Lhx (fun j x hx=>key j x hx)
def cA(a b:Kwg):Int:=if cI a.At b.At≠0 then cI a.At b.At else if Lib.compareBytes a.Key b.Key≠0 then Lib.compareBytes a.Key b.Key else Lib.compareBytes a.By b.By
theorem cmpA(a b:Kwg):Kxm a b=some (cA a b):=by
 unfold Kxm Ktk
 rw[Lll]
 simp only[bi_some]
 rw[or3]
 rfl
theorem Llg:Kyt=Kxm:=rfl
theorem Lia{a b:Kwg}(h:cA a b<0):a.At≤b.At:=by
 unfold cA cI at h
 by_cases h1:a.At<b.At
 ·omega
 by_cases h2:a.At>b.At
 ·rw[if_neg h1,if_pos h2] at h
  simp at h
 omega
def askF(a:Kwg):Int:=
 bif !momB a.At then 1 else bif !keyB a.Key||!keyB a.By then 5 else bif !inB a.Kind 1 4 then 4 else bif !((a.Kind:Int)==1)&&((!((a.Node:Str)==[])||!((a.Posture:Str)==[]))||((a.Long:Int) != 0)) then 3
 else bif ((a.Kind:Int)==1)&&(!keyB a.Node||!keyB a.Posture) then 5 else bif ((a.Kind:Int)==1)&&!inB a.Long 1 345686400 then 1 else 0
def AskD(l:List Kwg):Prop:=l.length≤200∧∀ a∈l,a.Key.length≤1000∧a.By.length≤1000∧a.Node.length≤1000∧a.Posture.length≤1000
theorem Lic{k:Nat}(hk:2000<k){a:Kwg}(h:a.Key.length≤1000∧a.By.length≤1000∧a.Node.length≤1000∧a.Posture.length≤1000):Kxi k a=some (askF a):=by
 obtain⟨h1,h2,h3,h4⟩:=h
 unfold Kxi askF
 rw[(Lhn _).1,bi_some,keyP k a.Key (by omega) (by omega),keyP k a.By (by omega) (by omega),keyP k a.Node (by omega) (by omega),keyP k a.Posture (by omega) (by omega),outP,outP]
 simp only[bi_some]
 rw[show((a.Kind:Int) != 1)=!((a.Kind:Int)==1) from rfl]
 cases momB a.At with
 | false=>rfl
 | true=>
  cases keyB a.Key with
  | false=>rfl
  | true=>
   cases keyB a.By with
   | false=>rfl
   | true=>
    cases inB a.Kind 1 4 with
    | false=>rfl
    | true=>
     generalize ((!((a.Node:Str)==[])||!((a.Posture:Str)==[]))||((a.Long:Int) != 0))=X
     cases (a.Kind:Int)==1<;>cases X<;>cases keyB a.Node<;>cases keyB a.Posture<;>cases inB a.Long 1 345686400<;>rfl
def askE(l:List Kwg)(j:Nat)(a:Kwg):Int:=if askF a≠0 then askF a else if 0<j∧((l[j - 1]?).map fun y=>decide (cA y a≥0))=some true then 7 else 0
theorem Lid{l:List Kwg}(hl:l.length≤1000){j:Nat}{x:Kwg}(hj:j<l.length)(h0:askF x=0):(bi (bif decide (((j:Int):Int)>0) then(bi (getZ l (wi ((j:Int) - 1))) fun x23=>bi (Kxm x23 x) fun y25=>some (decide ((y25:Int)≥0))) else(some false)) fun q20=>bif q20 then(bi (some (7:Int)) fun v=>some (.out v)) else(some (.go ())))=some (if askE l j x=0 then(LS.go ():LS Unit Int) else .out (askE l j x)):=by
 have hE:askE l j x=if 0<j∧((l[j - 1]?).map fun y=>decide (cA y x≥0))=some true then 7 else 0:=by
  unfold askE
  exact Lhs (fun h=>h h0)
 rw[hE]
 by_cases hj0:0<j
 ·rw[dT (show(j:Int)>0 by omega),cond_true,Kuq (by omega) (by omega),show(j:Int) - 1=((j - 1:Nat):Int) by omega,Kvu (gGe (show j - 1<l.length by omega)),bi_some,cmpA,bi_some,bi_some,gGe (show j - 1<l.length by omega)]
  cases hd:decide (cA l[j - 1] x≥0) with
  | true=>rw[Lhr ⟨hj0,by simp[hd]⟩];rfl
  | false=>rw[Lhs (fun h=>by have:=h.2;simp[hd] at this)];rfl
 rw[dF (show ¬ (j:Int)>0 by omega),Lhs (fun h=>hj0 h.1)];rfl
theorem Lie{k:Nat}(hk:2000<k){l:List Kwg}(h:AskD l):∃ e,Kxn k l=some e∧Kyu l=some e∧(e=0→Kd l∧Rise l∧∀ a∈l,0≤a.At∧a.At<345686400):=by
 unfold Kxn Kyu
 have hlen:=h.1
 rw[dF (show ¬ ((l.length:Int):Int)>2000 by omega)]
 simp only[cond_false]
 have one:∀ (j:Nat) (x:Kwg),l[j]?=some x→(bi (Kxi k x) fun y14=>bif (y14:Int) != 0 then(bi (some y14) fun v=>some (.out v)) else(bi (bif decide (((j:Int):Int)>0) then(bi (getZ l (wi ((j:Int) - 1))) fun x23=>bi (Kxm x23 x) fun y25=>some (decide ((y25:Int)≥0))) else(some false)) fun q20=>bif q20 then(bi (some (7:Int)) fun v=>some (.out v)) else(some (.go ()))))=some (if askE l j x=0 then(LS.go ():LS Unit Int) else .out (askE l j x)):=by
  intro j x hx
  have hj:=(gEs.1 hx).1
  rw[Lic hk (h.2 x (mOg hx)),bi_some]
  by_cases h0:askF x=0
  ·rw[show((askF x:Int) != 0)=false by simpa using h0,cond_false]
   exact Lid (by omega) hj h0
  rw[show((askF x:Int) != 0)=true by simpa using h0,cond_true]
  have:askE l j x=askF x:=by unfold askE;rw[if_pos h0]
  rw[this,if_neg h0];rfl
 have two:∀ (j:Nat) (x:Kwg),l[j]?=some x→(bi (Kys x.At) fun y14=>bif !y14 then(bi (some (1:Int)) fun v=>some (.out v)) else(bi (Kyo x.Key) fun y20=>bi (bif !y20 then(some true) else(bi (Kyo x.By) fun y26=>some (!y26))) fun q22=>bif q22 then(bi (some (5:Int)) fun v=>some (.out v)) else(bi (Kyq x.Kind 1 4) fun y32=>bif !y32 then(bi (some (4:Int)) fun v=>some (.out v)) else(bi (bif (x.Kind:Int)==1 then(bi (Kyo x.Node) fun y41=>bi (bif !y41 then(some true) else(bi (Kyo x.Posture) fun y47=>some (!y47))) fun q43=>some q43) else(some false)) fun q38=>bif q38 then(bi (some (5:Int)) fun v=>some (.out v)) else(bi (bif (x.Kind:Int)==1 then(bi (Kyq x.Long 1 345686400) fun y57=>some (!y57)) else(some false)) fun q54=>bif q54 then(bi (some (1:Int)) fun v=>some (.out v)) else(bif ((!((x.Kind:Int)==1))&&(((!((x.Node:Str)==[]))||(!((x.Posture:Str)==[])))||((x.Long:Int) != 0))) then(bi (some (3:Int)) fun v=>some (.out v)) else(bi (bif decide (((j:Int):Int)>0) then(bi (getZ l (wi ((j:Int) - 1))) fun x71=>bi (Kyt x71 x) fun y73=>some (decide ((y73:Int)≥0))) else(some false)) fun q68=>bif q68 then(bi (some (7:Int)) fun v=>some (.out v)) else(some (.go ())))))))))=some (if askE l j x=0 then(LS.go ():LS Unit Int) else .out (askE l j x)):=by
  intro j x hx
  have hj:=(gEs.1 hx).1
  obtain⟨h1,h2,h3,h4⟩:=h.2 x (mOg hx)
  rw[Llg,(Lhn _).2,bi_some,keyR x.Key (by omega),keyR x.By (by omega),keyR x.Node (by omega),keyR x.Posture (by omega),inP,inP]
  simp only[bi_some]
  have bad:∀ e:Int,e≠0→askF x=e→some (LS.out e:LS Unit Int)=some (if askE l j x=0 then(LS.go ():LS Unit Int) else .out (askE l j x)):=fun e he hf=>by
   have:askE l j x=e:=by unfold askE;rw[if_pos (by rw[hf];exact he),hf]
   rw[this,if_neg he]
  have good:askF x=0→_:=fun h0=>Lid (l:=l) (by omega) hj h0
  unfold askF at bad good
  cases b1:momB x.At with
  | false=>exact bad 1 (by decide) (by rw[b1];rfl)
  | true=>
   cases b2:keyB x.Key with
   | false=>exact bad 5 (by decide) (by rw[b1,b2];rfl)
   | true=>
    cases b3:keyB x.By with
    | false=>exact bad 5 (by decide) (by rw[b1,b2,b3];rfl)
    | true=>
     cases b4:inB x.Kind 1 4 with
     | false=>exact bad 4 (by decide) (by rw[b1,b2,b3,b4];rfl)
     | true=>
      cases b5:(x.Kind:Int)==1 with
      | false=>
       cases b6:((!((x.Node:Str)==[])||!((x.Posture:Str)==[]))||((x.Long:Int) != 0)) with
       | true=>exact bad 3 (by decide) (by rw[b1,b2,b3,b4,b5,b6];rfl)
       | false=>exact good (by rw[b1,b2,b3,b4,b5,b6];rfl)
      | true=>
       cases b6:keyB x.Node with
       | false=>exact bad 5 (by decide) (by rw[b1,b2,b3,b4,b5,b6];rfl)
       | true=>
        cases b7:keyB x.Posture with
        | false=>exact bad 5 (by decide) (by rw[b1,b2,b3,b4,b5,b6,b7];rfl)
        | true=>
         cases b8:inB x.Long 1 345686400 with
         | false=>exact bad 1 (by decide) (by rw[b1,b2,b3,b4,b5,b6,b7,b8];rfl)
         | true=>exact good (by rw[b1,b2,b3,b4,b5,b6,b7,b8];rfl)
 refine Lhy (E:=askE l) (fun j x hx=>one j x hx) (fun j x hx=>two j x hx) fun hz=>?_
 have z:∀ j x,l[j]?=some x→askF x=0∧(0<j→∀ y,l[j - 1]?=some y→cA y x<0):=fun j x hx=>by
  have:=hz j x hx
  unfold askE at this
  by_cases h0:askF x=0
  ·refine⟨h0,fun hj y hy=>?_⟩
   rw[if_neg (by simpa using h0)] at this
   rw[hy] at this
   by_cases hc:cA y x≥0
   ·rw[if_pos ⟨hj,by simp[hc]⟩] at this;cases this
   omega
  rw[if_pos h0] at this;exact absurd this h0
 have zf:∀ a∈l,askF a=0:=fun a ha=>by
  obtain⟨j,hj⟩:=List.getElem?_of_mem ha
  exact(z j a hj).1
 have zz:∀ a∈l,momB a.At=true∧inB a.Kind 1 4=true:=fun a ha=>by
  have:=zf a ha
  unfold askF at this
  cases b1:momB a.At with
  | false=>rw[b1] at this;cases this
  | true=>
   refine⟨rfl,?_⟩
   rw[b1] at this
   cases b2:(!keyB a.Key||!keyB a.By) with
   | true=>rw[b2] at this;cases this
   | false=>
    rw[b2] at this
    cases b3:inB a.Kind 1 4 with
    | false=>rw[b3] at this;cases this
    | true=>rfl
 have adj:∀ i (hi:i+1<l.length),l[i].At≤l[i+1].At:=fun i hi=>Lia ((z (i+1) l[i+1] (gGe hi)).2 (by omega) l[i] (by rw[show i+1 - 1=i by omega];exact gGe (by omega)))
 refine⟨fun a ha=>?_,?_,fun a ha=>?_⟩
 ·have:=(zz a ha).2
  unfold inB at this
  simp only[Bool.and_eq_true,decide_eq_true_eq] at this
  omega
 ·refine List.pairwise_iff_getElem.2 fun i j hi hj hij=>?_
  obtain⟨d,rfl⟩:∃ d,j=i+1+d:=⟨j - (i+1),by omega⟩
  clear hij
  induction d with
  | zero=>exact adj i hj
  | succ d ih=>exact Int.le_trans (ih (by omega)) (adj (i+1+d) hj)
 have:=(zz a ha).1
 unfold momB at this
 simpa using this
end Go.Gk
