import Derived.Test.YthhdojhbohfmnaaGreatDoorCCond
import Derived.Test.YthhdojhbohfmnaaGreatDoorEStab
set_option linter.all false
set_option maxRecDepth 100000
namespace Go.Gk
theorem Kti:∀ a:List UInt8,Op.bytesLess a a=false
 | []=>rfl
 | x :: a=>by simp[Op.bytesLess,Kti a]
theorem Ktj:∀ a b c:List UInt8,Op.bytesLess a b=true→Op.bytesLess b c=true→Op.bytesLess a c=true
 | _,[],_,h,_=>by cases ‹List UInt8›<;>simp[Op.bytesLess] at h
 | _,_ :: _,[],_,h=>by simp[Op.bytesLess] at h
 | [],_ :: _,_ :: _,_,_=>rfl
 | x :: a,y :: b,z :: c,h,k=>by
  simp only[Op.bytesLess,Bool.or_eq_true,decide_eq_true_eq,Bool.and_eq_true,beq_iff_eq] at h k ⊢
  rcases h with h | ⟨rfl,h⟩
  ·rcases k with k | ⟨rfl,k⟩
   ·exact .inl (UInt8.lt_trans h k)
   exact .inl h
  rcases k with k | ⟨rfl,k⟩
  ·exact .inl k
  exact .inr ⟨rfl,Ktj a b c h k⟩
theorem Ktk:∀ a b:List UInt8,Op.bytesLess a b=false→Op.bytesLess b a=false→a=b
 | [],[],_,_=>rfl
 | [],_ :: _,h,_=>by simp[Op.bytesLess] at h
 | _ :: _,[],_,h=>by simp[Op.bytesLess] at h
 | x :: a,y :: b,h,k=>by
  simp only[Op.bytesLess,Bool.or_eq_false_iff,decide_eq_false_iff_not,Bool.and_eq_false_iff,beq_eq_false_iff_ne,ne_eq] at h k
  have e:x=y:=by
   apply UInt8.toNat_inj.1
   have h1:=h.1;have k1:=k.1
   rw[UInt8.lt_iff_toNat_lt] at h1 k1
   omega
  subst e
  rw[Ktk a b (by simpa using h.2) (by simpa using k.2)]
section
variable{α:Type}{lt:α→α→Bool}
structure Ord(lt:α→α→Bool):Prop where
 sy:∀ a b,lt a b=true→lt b a=false
 tr:∀ a b c,lt a b=false→lt b c=false→lt a c=false
end
theorem Ktl:∀ a b:Str,decide (Lib.compareBytes a b<0)=Op.bytesLess a b
 | [],[]=>rfl
 | [],_ :: _=>rfl
 | _ :: _,[]=>rfl
 | a :: x,b :: y=>by
  unfold Lib.compareBytes Op.bytesLess
  by_cases h1:a<b
  ·simp[h1]
  by_cases h2:b<a
  ·have hne:(a==b)=false:=by
    rw[beq_eq_false_iff_ne]
    intro e
    subst e
    exact h1 h2
   simp[h1,h2,hne]
  have he:a=b:=UInt8.le_antisymm (UInt8.not_lt.1 h2) (UInt8.not_lt.1 h1)
  subst he
  simp[h1,Ktl x y]
theorem Ktm(a b:Str)(h:Op.bytesLess a b=true):Op.bytesLess b a=false:=by
 cases h2:Op.bytesLess b a with
 | false=>rfl
 | true=>have:=Ktj _ _ _ h h2;rw[Kti] at this;cases this
theorem Ktn(a b c:Str)(h1:Op.bytesLess a b=false)(h2:Op.bytesLess b c=false):Op.bytesLess a c=false:=by
 cases h3:Op.bytesLess a c with
 | false=>rfl
 | true=>
  cases h4:Op.bytesLess b a with
  | true=>have:=Ktj _ _ _ h4 h3;rw[h2] at this;cases this
  | false=>
   have:=Ktk _ _ h1 h4
   subst this
   rw[h2] at h3;cases h3
theorem Kto:∀ a b:Str,Lib.compareBytes a b=0 ↔ a=b
 | [],[]=>by simp[Lib.compareBytes]
 | [],_ :: _=>by simp[Lib.compareBytes]
 | _ :: _,[]=>by simp[Lib.compareBytes]
 | a :: x,b :: y=>by
  unfold Lib.compareBytes
  by_cases h1:a<b
  ·simp only[h1,if_true]
   constructor
   ·intro h;cases h
   intro h;cases h;exact absurd h1 (UInt8.lt_irrefl _)
  by_cases h2:b<a
  ·simp only[h1,h2,if_true,if_false]
   constructor
   ·intro h;cases h
   intro h;cases h;exact absurd h2 (UInt8.lt_irrefl _)
  have he:a=b:=UInt8.le_antisymm (UInt8.not_lt.1 h2) (UInt8.not_lt.1 h1)
  subst he
  simp only[h1,if_false,Kto x y]
  simp
def cI(x y:Int):Int:=if x<y then -1 else if x>y then 1 else 0
def cC(a b:Kxb):Int:=if cI a.At b.At≠0 then cI a.At b.At else if Lib.compareBytes a.Node b.Node≠0 then Lib.compareBytes a.Node b.Node else Lib.compareBytes a.Name b.Name
theorem Ley(x y:Int):Kyb x y=some (cI x y):=by
 unfold Kyb Kya cI
 simp only[bne_self_eq_false,bi_some,cond_false]
 by_cases h1:x<y
 ·rw[dT h1,if_pos h1];rfl
 rw[dF h1,if_neg h1]
 by_cases h2:x>y
 ·rw[dT h2,if_pos h2];rfl
 rw[dF h2,if_neg h2];rfl
theorem or3(x y z:Int):Kyc [x,y,z]=some (if x≠0 then x else if y≠0 then y else z):=by
 unfold Kyc
 by_cases hx:x=0
 ·subst hx
  by_cases hy:y=0
  ·subst hy
   by_cases hz:z=0
   ·subst hz;rfl
   have bz:(z != 0)=true:=by simpa using hz
   simp[rangeM,goI,bz]
  have by':(y != 0)=true:=by simpa using hy
  simp[rangeM,goI,by',hy]
 have bx:(x != 0)=true:=by simpa using hx
 simp[rangeM,goI,bx,hx]
theorem cmpC(a b:Kxb):Kyd a b=some (cC a b):=by
 unfold Kyd Ksg
 rw[Ley]
 simp only[bi_some]
 rw[or3]
 rfl
theorem Ktp(a b:Kxb):cC a b=0 ↔ a.At=b.At∧a.Node=b.Node∧a.Name=b.Name:=by
 have hI:cI a.At b.At=0 ↔ a.At=b.At:=by unfold cI;split<;>(try split)<;>omega
 unfold cC
 by_cases h1:a.At=b.At
 ·rw[if_neg (by simpa using hI.2 h1)]
  by_cases h2:a.Node=b.Node
  ·rw[if_neg (by simpa using (Kto _ _).2 h2),Kto]
   simp[h1,h2]
  have:Lib.compareBytes a.Node b.Node≠0:=fun h=>h2 ((Kto _ _).1 h)
  rw[if_pos this]
  simp[h1,h2,this]
 have:cI a.At b.At≠0:=fun h=>h1 (hI.1 h)
 rw[if_pos this]
 simp[h1,this]
def cL(a b:Kxb):Bool:=decide (a.At<b.At)||(decide (a.At=b.At)&&(Op.bytesLess a.Node b.Node||(decide (a.Node=b.Node)&&Op.bytesLess a.Name b.Name)))
theorem Ktq(a b:Kxb):decide (cC a b<0)=cL a b:=by
 unfold cC cL
 by_cases h1:a.At<b.At
 ·have:cI a.At b.At=-1:=by unfold cI;rw[if_pos h1]
  rw[this,dT h1];rfl
 by_cases h2:a.At=b.At
 ·have:cI a.At b.At=0:=by unfold cI;rw[if_neg h1,if_neg (by omega)]
  rw[this,dF h1,dT h2]
  simp only[ne_eq,not_true_eq_false,if_false,Bool.false_or,Bool.true_and]
  by_cases h3:a.Node=b.Node
  ·rw[if_neg (by simpa using (Kto _ _).2 h3),Ktl,dT h3,h3,Kti];rfl
  rw[if_pos (fun h=>h3 ((Kto _ _).1 h)),Ktl,dF h3];simp
 have:cI a.At b.At=1:=by unfold cI;rw[if_neg h1,if_pos (by omega)]
 rw[this,dF h1,dF h2];rfl
theorem Ktr:Ord cL where
 sy a b h:=by
  unfold cL at *
  simp only[Bool.or_eq_true,Bool.and_eq_true,decide_eq_true_eq,Bool.or_eq_false_iff,Bool.and_eq_false_iff,decide_eq_false_iff_not] at *
  rcases h with h | ⟨h1,h | ⟨h2,h⟩⟩
  ·exact⟨by omega,.inl (by omega)⟩
  ·refine⟨by omega,.inr ⟨Ktm _ _ h,.inl fun e=>?_⟩⟩
   rw[e,Kti] at h;cases h
  exact⟨by omega,.inr ⟨by rw[h2,Kti],.inr (Ktm _ _ h)⟩⟩
 tr a b c h g:=by
  unfold cL at *
  simp only[Bool.or_eq_false_iff,Bool.and_eq_false_iff,decide_eq_false_iff_not] at *
  obtain⟨h1,h2⟩:=h
  obtain⟨g1,g2⟩:=g
  refine⟨by omega,?_⟩
  by_cases e:a.At=c.At
  ·have e1:a.At=b.At:=by omega
   have e2:b.At=c.At:=by omega
   obtain⟨h3,h4⟩:=h2.resolve_left (by omega)
   obtain⟨g3,g4⟩:=g2.resolve_left (by omega)
   refine .inr ⟨Ktn _ _ _ h3 g3,?_⟩
   by_cases e3:a.Node=c.Node
   ·have e4:a.Node=b.Node:=by
     refine Ktk _ _ h3 ?_
     rw[e3];exact g3
    have e5:b.Node=c.Node:=by rw[←e4];exact e3
    exact .inr (Ktn _ _ _ (h4.resolve_left (by simpa using e4)) (g4.resolve_left (by simpa using e5)))
   exact .inl e3
  exact .inl e
end Go.Gk
namespace Go.Gk
def Srtd(l:List Kxb):Prop:=l.Pairwise fun x y=>cL y x=false
theorem Kuv(x y:Kxb):ltO Kyd x y=cL x y:=by
 unfold ltO
 rw[cmpC]
 exact Ktq x y
theorem Kuw:Go.Sort.SWO (ltO Kyd) where
 irrefl x:=by
  rw[Kuv]
  cases h:cL x x with
  | false=>rfl
  | true=>have:=Ktr.sy _ _ h;rw[h] at this;cases this
 trans x y z h1 h2:=by
  rw[Kuv] at *
  cases h:cL x z with
  | true=>rfl
  | false=>
   have:=Ktr.tr _ _ _ h (Ktr.sy _ _ h2)
   rw[h1] at this;cases this
 ntrans x y z h1 h2:=by
  rw[Kuv] at *
  exact Ktr.tr _ _ _ h1 h2
theorem Lez:CmpOk Kyd:=⟨fun x y=>⟨_,cmpC x y⟩,Kuw⟩
theorem cmpT:CmpT (fun a b=>Kzf a b):=⟨fun x y=>⟨_,cmpC x y⟩,Kuw⟩
theorem Kux:∀ k,Kyr k=gSym Kyd k
 | 0=>by funext data a m b;rfl
 | k+1=>by
  have ih:=Kux k
  funext data a m b
  unfold Kyr gSym
  rw[ih]
  rfl
theorem Kuy(k:Nat)(x:List Kxb):Kyt k x=gStable Kyd k x (x.length:Int):=by
 unfold Kyt
 rw[show ∀ {α:Type} (x:Option α),(bi x fun y=>some y)=x from fun x=>by cases x<;>rfl]
 unfold Kys
 rw[Kux]
 rfl
theorem Lfa(k:Nat)(hk:300≤k)(x:List Kxb)(hl:x.length<60):∃ m,Kyt k x=some m∧Srtd m∧m.length=x.length∧m.Perm x:=by
 obtain⟨m,m1,m2,m3⟩:=Kdp Lez k x (by omega) hl
 refine⟨m,?_,m2.imp fun h=>by rw[←Kuv];exact h,m3.length_eq,m3⟩
 rw[Kuy]
 exact m1
theorem Lfb{γ:Type}{x:List Kxb}{f:List Kxb→Option γ}{v:γ}(hl:x.length≤100000)(h:∀ m,Srtd m→m.length=x.length→m.Perm x→f m=some v):sortD (fun a b=>Kzf a b) x f=some v:=
 Koy cmpT (by omega) fun r hr=>h r (hr.srt.imp fun h=>by rw[←Kuv];exact h) hr.length hr.perm
theorem Kuz{A B:List Kxb}(hA:A.Pairwise fun x y=>cL x y=true)(hB:B.Pairwise fun x y=>cL x y=true)(h:∀ x,x∈A ↔ x∈B):A=B:=by
 have ass:∀ a b,cL a b=true→cL b a=true→False:=fun a b h1 h2=>by rw[Ktr.sy _ _ h1] at h2;cases h2
 exact List.Perm.eq_of_pairwise (fun a b _ _ h1 h2=>(ass a b h1 h2).elim) hA hB ((List.perm_ext_iff_of_nodup (hA.imp fun h e=>by subst e;exact ass _ _ h h) (hB.imp fun h e=>by subst e;exact ass _ _ h h)).2 h)
end Go.Gk
namespace Go.Gk
theorem eqE(a b:Kxb):(((a.At:Int)==b.At)&&(((a.Node:Str)==b.Node)&&(((a.Name:Str)==b.Name)&&((((a.Value.Kind:Int)==b.Value.Kind)&&(((a.Value.Number:Int)==b.Value.Number)&&(((a.Value.Words:Str)==b.Value.Words)&&(decide (([a.Value.Version.1,a.Value.Version.2.1,a.Value.Version.2.2.1,a.Value.Version.2.2.2]:List Int)=[b.Value.Version.1,b.Value.Version.2.1,b.Value.Version.2.2.1,b.Value.Version.2.2.2])&&true))))&&true))))=decide (a=b):=by
 obtain⟨a0,a1,a2,a3,a4,a5,a6,a7,a8,a9⟩:=a
 obtain⟨b0,b1,b2,b3,b4,b5,b6,b7,b8,b9⟩:=b
 rw[Bool.eq_iff_iff]
 simp only[Bool.and_eq_true,beq_iff_eq,decide_eq_true_eq,List.cons.injEq,and_true,Kxb.mk.injEq,Kxa.mk.injEq,Prod.mk.injEq]
def dd(s:List Kxb):Nat→List Kxb
 | 0=>[]
 | m+1=>if 0<m∧s[m]?=s[m - 1]? then dd s m else dd s m++(s[m]?).toList
theorem Ksu(s:List Kxb):∀ m,(dd s m).length≤m
 | 0=>Nat.le_refl _
 | m+1=>by
  have:=Ksu s m
  unfold dd
  split
  ·omega
  rw[List.length_append]
  have:(s[m]?).toList.length≤1:=by cases s[m]?<;>simp
  omega
theorem Ksv(s:List Kxb)(x:Kxb):∀ m,m≤s.length→(x∈dd s m ↔ x∈s.take m)
 | 0,_=>by simp[dd]
 | m+1,h=>by
  have ih:=Ksv s x m (by omega)
  have hm:=gGe (show m<s.length by omega)
  have e:dd s (m+1)=if 0<m∧s[m]?=s[m - 1]? then dd s m else dd s m++(s[m]?).toList:=rfl
  rw[List.take_add_one,List.mem_append,←ih,e]
  split
  ·rename_i hd
   refine⟨fun h=>.inl h,fun h=>h.elim id fun h=>?_⟩
   rw[hd.2] at h
   have h1:s[m - 1]?=some x:=by simpa using h
   rw[ih]
   refine mOg (i:=m - 1) ?_
   rw[List.getElem?_take_of_lt (by omega)]
   exact h1
  rw[List.mem_append]
theorem Ksw(k:Nat)(s:List Kxb)(hk:s.length+2≤k)(hl:s.length≤4294967296):Kyu k s=some (dd s s.length):=by
 unfold Kyu
 by_cases h2:s.length<2
 ·rw[dT (by omega)]
  simp only[cond_true]
  match s,h2 with
  | [],_=>rfl
  | [x],_=>rfl
 rw[dF (by omega)]
 simp only[cond_false]
 refine Kwf (I:=fun i:Int=>1≤i∧i≤s.length∧dd s i.toNat=s.take i.toNat) (μ:=fun i=>(s.length - i.toNat)) (Q:=fun r=>r=.inl ()∧dd s s.length=s∨r=.inr (dd s s.length)) ?_ ⟨by omega,by omega,?_⟩ (by simp;omega) ?_
 ·rintro i ⟨h1,hi,hd⟩
  by_cases hlt:i<s.length
  ·rw[dT hlt]
   simp only[cond_true]
   obtain⟨j,rfl⟩:=Int.eq_ofNat_of_zero_le (show 0≤i by omega)
   simp only[Int.toNat_natCast] at hd ⊢
   have hj:j<s.length:=by omega
   have w1:wi ((j:Int) - 1)=((j - 1:Nat):Int):=by rw[Kvu (by omega) (by omega)];omega
   have w2:wi ((j:Int)+1)=((j+1:Nat):Int):=by rw[Kvu (by omega) (by omega)];omega
   rw[Kwj (gGe hj),w1,Kwj (gGe (show j - 1<s.length by omega))]
   simp only[bi_some]
   have hds:dd s (j+1)=if s[j]=s[j - 1] then s.take j else s.take (j+1):=by
    rw[dd,gGe hj,gGe (show j - 1<s.length by omega),hd,List.take_add_one,gGe hj]
    simp[show 0<j by omega]
   by_cases he:s[j]=s[j - 1]
   ·rw[if_pos he] at hds
    have:(((s[j].At:Int)==s[j - 1].At)&&(((s[j].Node:Str)==s[j - 1].Node)&&(((s[j].Name:Str)==s[j - 1].Name)&&((((s[j].Value.Kind:Int)==s[j - 1].Value.Kind)&&(((s[j].Value.Number:Int)==s[j - 1].Value.Number)&&(((s[j].Value.Words:Str)==s[j - 1].Value.Words)&&(decide (([s[j].Value.Version.1,s[j].Value.Version.2.1,s[j].Value.Version.2.2.1,s[j].Value.Version.2.2.2]:List Int)=[s[j - 1].Value.Version.1,s[j - 1].Value.Version.2.1,s[j - 1].Value.Version.2.2.1,s[j - 1].Value.Version.2.2.2])&&true))))&&true))))=true:=by rw[eqE];simpa using he
    rw[this]
    simp only[cond_true]
    have hz:subZ s (j:Int) (s.length:Int)=some (s.drop j):=by
     have e:=Kwi (l:=s) (i:=j) (j:=s.length) (by omega) (by omega)
     rw[e]
     simp
    rw[hz]
    simp only[bi_some]
    refine .inl ⟨.inr (dd s s.length),?_,.inr rfl⟩
    refine Kwf (I:=fun t:List Kxb×Int×Int=>t.1.length=s.length∧1≤t.2.2∧j+t.2.2≤s.length∧0≤t.2.1∧t.2.1≤j+t.2.2 - 1∧dd s (j+t.2.2.toNat)=t.1.take t.2.1.toNat∧∀ q,j+t.2.2.toNat - 1≤q→t.1[q]?=s[q]?)
     (μ:=fun t=>s.length - (j+t.2.2.toNat)) (Q:=fun r=>r.1.length=s.length∧0≤r.2∧r.2≤s.length∧dd s s.length=r.1.take r.2.toNat) ?_ ⟨rfl,by simp,by simp;omega,by simp,by simp,by simpa using hds,fun _ _=>rfl⟩ (by simp;omega) ?_
    ·rintro⟨cur,w,q⟩ ⟨i1,i2,i3,i4,i5,i6,i7⟩
     simp only at i1 i2 i3 i4 i5 i6 i7 ⊢
     obtain⟨q,rfl⟩:=Int.eq_ofNat_of_zero_le (show 0≤q by omega)
     obtain⟨w,rfl⟩:=Int.eq_ofNat_of_zero_le i4
     simp only[Int.toNat_natCast] at *
     have hdl:(s.drop j).length=s.length - j:=by simp
     by_cases hq:(q:Int)<((s.drop j).length:Int)
     ·rw[dT hq]
      rw[hdl] at hq
      simp only[cond_true]
      have v1:wi ((q:Int) - 1)=((q - 1:Nat):Int):=by rw[Kvu (by omega) (by omega)];omega
      have v2:wi ((q:Int)+1)=((q+1:Nat):Int):=by rw[Kvu (by omega) (by omega)];omega
      have v3:wi ((w:Int)+1)=((w+1:Nat):Int):=by rw[Kvu (by omega) (by omega)];omega
      have g1:(s.drop j)[q]?=some s[j+q]:=by rw[List.getElem?_drop,gGe (by omega)]
      have g2:(s.drop j)[q - 1]?=some s[j+q - 1]:=by rw[List.getElem?_drop,gGe (by omega)];congr 2;omega
      have g3:cur[j+q]?=some s[j+q]:=by rw[i7 _ (by omega),gGe (by omega)]
      have g4:cur[j+(q - 1)]?=some s[j+q - 1]:=by rw[i7 _ (by omega),gGe (by omega)];congr 2;omega
      have g5:∃ u,cur[w]?=some u:=⟨_,gGe (by omega)⟩
      obtain⟨u,g5⟩:=g5
      rw[Kwj g1,v1]
      simp only[bi_some,Int.toNat_natCast]
      rw[Kwj g3,Kwj g2,Kwj g4,Kwj g5]
      simp only[bi_some]
      have hdq:dd s (j+(q+1))=if s[j+q]=s[j+q - 1] then dd s (j+q) else dd s (j+q)++[s[j+q]]:=by
       rw[←Nat.add_assoc,dd,gGe (show j+q<s.length by omega),gGe (show j+q - 1<s.length by omega)]
       simp[show 0<j+q by omega]
      by_cases hne:s[j+q]=s[j+q - 1]
      ·have e:(!(((s[j+q].At:Int)==s[j+q - 1].At)&&(((s[j+q].Node:Str)==s[j+q - 1].Node)&&(((s[j+q].Name:Str)==s[j+q - 1].Name)&&((((s[j+q].Value.Kind:Int)==s[j+q - 1].Value.Kind)&&(((s[j+q].Value.Number:Int)==s[j+q - 1].Value.Number)&&(((s[j+q].Value.Words:Str)==s[j+q - 1].Value.Words)&&(decide (([s[j+q].Value.Version.1,s[j+q].Value.Version.2.1,s[j+q].Value.Version.2.2.1,s[j+q].Value.Version.2.2.2]:List Int)=[s[j+q - 1].Value.Version.1,s[j+q - 1].Value.Version.2.1,s[j+q - 1].Value.Version.2.2.1,s[j+q - 1].Value.Version.2.2.2])&&true))))&&true)))))=false:=by rw[eqE];simpa using hne
       rw[e,v2]
       rw[if_pos hne] at hdq
       refine .inr ⟨_,rfl,⟨i1,by simp;omega,by simp;omega,by simp,by simp;omega,by simpa [hdq] using i6,fun p hp=>i7 p (by simp at hp;omega)⟩,by simp;omega⟩
      have e:(!(((s[j+q].At:Int)==s[j+q - 1].At)&&(((s[j+q].Node:Str)==s[j+q - 1].Node)&&(((s[j+q].Name:Str)==s[j+q - 1].Name)&&((((s[j+q].Value.Kind:Int)==s[j+q - 1].Value.Kind)&&(((s[j+q].Value.Number:Int)==s[j+q - 1].Value.Number)&&(((s[j+q].Value.Words:Str)==s[j+q - 1].Value.Words)&&(decide (([s[j+q].Value.Version.1,s[j+q].Value.Version.2.1,s[j+q].Value.Version.2.2.1,s[j+q].Value.Version.2.2.2]:List Int)=[s[j+q - 1].Value.Version.1,s[j+q - 1].Value.Version.2.1,s[j+q - 1].Value.Version.2.2.1,s[j+q - 1].Value.Version.2.2.2])&&true))))&&true)))))=true:=by rw[eqE];simpa using hne
      rw[e,v2,v3]
      rw[if_neg hne] at hdq
      refine .inr ⟨_,rfl,⟨by simpa using i1,by simp;omega,by simp;omega,by simp;omega,by simp;omega,?_,fun p hp=>?_⟩,by simp;omega⟩
      ·simp only[Int.toNat_natCast]
       rw[hdq,i6,List.take_add_one,gSs (by omega),List.take_set_of_le (Nat.le_refl _)]
       rfl
      simp only[Int.toNat_natCast] at hp
      rw[gSn (by omega)]
      exact i7 p (by omega)
     rw[dF hq]
     rw[hdl] at hq
     refine .inl ⟨_,rfl,i1,by simp,by simp;omega,?_⟩
     simp only[Int.toNat_natCast]
     rw[←i6]
     congr 1
     omega
    rintro⟨cur,w⟩ ⟨r1,r2,r3,r4⟩
    simp only at r1 r2 r3 r4 ⊢
    obtain⟨w,rfl⟩:=Int.eq_ofNat_of_zero_le r2
    have e:=Kwi (l:=cur) (i:=w) (j:=cur.length) (by omega) (by omega)
    rw[e]
    simp only[bi_some,Int.toNat_natCast] at r4 ⊢
    rw[r4]
   rw[if_neg he] at hds
   have:(((s[j].At:Int)==s[j - 1].At)&&(((s[j].Node:Str)==s[j - 1].Node)&&(((s[j].Name:Str)==s[j - 1].Name)&&((((s[j].Value.Kind:Int)==s[j - 1].Value.Kind)&&(((s[j].Value.Number:Int)==s[j - 1].Value.Number)&&(((s[j].Value.Words:Str)==s[j - 1].Value.Words)&&(decide (([s[j].Value.Version.1,s[j].Value.Version.2.1,s[j].Value.Version.2.2.1,s[j].Value.Version.2.2.2]:List Int)=[s[j - 1].Value.Version.1,s[j - 1].Value.Version.2.1,s[j - 1].Value.Version.2.2.1,s[j - 1].Value.Version.2.2.2])&&true))))&&true))))=false:=by rw[eqE];simpa using he
   rw[this,w2]
   exact .inr ⟨_,rfl,⟨by omega,by omega,by simpa using hds⟩,by simp;omega⟩
  rw[dF hlt]
  refine .inl ⟨_,rfl,.inl ⟨rfl,?_⟩⟩
  have:i.toNat=s.length:=by omega
  rw[this] at hd
  simpa using hd
 ·simp only[dd,Int.reduceToNat]
  simp[List.take_add_one]
 rintro r (⟨rfl,h⟩ | rfl)
 ·simp only[orI]
  rw[h]
 rfl
end Go.Gk
namespace Go.Gk
def AtS(a:Kxa):Prop:=a.Words.length≤1000
def ClS(c:Kxb):Prop:=c.Node.length≤1000∧c.Name.length≤1000∧AtS c.Value
def attrE(k:Nat)(a:Kxa):Int:=(Kxz k a).getD 0
theorem Ksq(k:Nat)(hk:10<k)(a:Kxa)(h:AtS a):Kxz k a=some (attrE k a)∧Kze k a=some (attrE k a):=by
 obtain⟨e,h1,h2⟩:=Kaz k hk a (by have:a.Words.length≤1000:=h;omega)
 have:attrE k a=e:=by unfold attrE;rw[h1];rfl
 rw[this]
 exact⟨h1,h2⟩
def momB(n:Int):Bool:=decide (n≥0)&&decide (n<345686400)
theorem Ksr(n:Int):Kxv n=some (momB n)∧Kza n=some (momB n):=by
 refine⟨rfl,?_⟩
 unfold Kza
 rw[Kba]
 simp only[bi_some]
 congr 1
 unfold momB
 rw[Bool.eq_iff_iff]
 simp only[decide_eq_true_eq,Bool.and_eq_true]
 omega
def chkE(k:Nat)(l:List Kxb)(i:Nat)(x:Kxb):Int:=
 if !momB x.At then 1 else if !keyB x.Node||!keyB x.Name then 5 else if attrE k x.Value≠0 then attrE k x.Value else if 0<i∧0≤cC (l.getD (i - 1) x) x then 7 else 0
theorem Kss{α:Type}{f:Nat→α→Unit→Option (LS Unit Int)}:∀ (l:List α) (i:Nat) (E:Nat→α→Int) (h:∀ j x,l[j]?=some x→f (i+j) x ()=some (if E (i+j) x=0 then .go () else .out (E (i+j) x))),
  ∃ r:Int,rangeM f i l ()=some (if r=0 then .go () else .out r)∧(r=0→∀ j x,l[j]?=some x→E (i+j) x=0)
 | [],i,E,h=>⟨0,rfl,fun _ j x hx=>by simp at hx⟩
 | x :: l,i,E,h=>by
  have h0:=h 0 x rfl
  simp only[Nat.add_zero] at h0
  by_cases he:E i x=0
  ·rw[if_pos he] at h0
   obtain⟨r,h1,h2⟩:=Kss l (i+1) E (fun j y hy=>by
    have:=h (j+1) y hy
    rw[show i+(j+1)=i+1+j by omega] at this
    exact this)
   refine⟨r,by simp only[rangeM,h0];exact h1,fun hr j y hy=>?_⟩
   cases j with
   | zero=>
    simp at hy
    subst hy
    exact he
   | succ j=>
    have:=h2 hr j y (by simpa using hy)
    rw[show i+(j+1)=i+1+j by omega]
    exact this
  ·rw[if_neg he] at h0
   exact⟨E i x,by simp only[rangeM,h0,if_neg he],fun hr=>absurd hr he⟩
theorem Kst(k:Nat)(hk:2000<k)(l:List Kxb)(hl:l.length≤1000)(hs:∀ c∈l,ClS c) :
  ∃ e:Int,Kye k l=some e∧Kzg k l=some e∧(e=0→l.Pairwise fun x y=>cL x y=true):=by
 have step:∀ (j:Nat) (x:Kxb),l[j]?=some x→(bif decide (((j:Int):Int)>0) then(bi (getZ l (wi ((j:Int) - 1))) fun x41=>bi (Kyd x41 x) fun y43=>some (decide ((y43:Int)≥0))) else(some false))=some (decide (0<j∧0≤cC (l.getD (j - 1) x) x)):=fun j x hx=>by
  have hj:=(gEs.1 hx).1
  by_cases h0:0<j
  ·rw[dT (show(j:Int)>0 by omega),cond_true,Kvu (by omega) (by omega),show(j:Int) - 1=((j - 1:Nat):Int) by omega]
   rw[Kwj (gGe (show j - 1<l.length by omega)),bi_some,cmpC,bi_some]
   congr 1
   refine decide_eq_decide.2 ?_
   rw[List.getD_eq_getElem?_getD,gGe (show j - 1<l.length by omega)]
   simp[h0]
  ·rw[dF (show ¬ (j:Int)>0 by omega),cond_false,dF (fun h=>h0 h.1)]
 have keys:∀ x∈l,Kxw k x.Node=some (keyB x.Node)∧Kxw k x.Name=some (keyB x.Name)∧Kzc x.Node=some (keyB x.Node)∧Kzc x.Name=some (keyB x.Name):=fun x hx=>by
  obtain⟨h1,h2,_⟩:=hs x hx
  exact⟨keyP k _ (by omega) (by omega),keyP k _ (by omega) (by omega),keyR _ (by omega),keyR _ (by omega)⟩
 obtain⟨r,h1,h2⟩:=Kss (f:=fun i3 x5 s4=>bi (Kxv x5.At) fun y14=>bif !y14 then(bi (some 1) fun v=>some (.out v)) else(bi (Kxw k x5.Node) fun y20=>bi (bif !y20 then(some true) else(bi (Kxw k x5.Name) fun y26=>some (!y26))) fun q22=>bif q22 then(bi (some 5) fun v=>some (.out v)) else(bi (Kxz k x5.Value) fun y32=>bif (y32:Int) != 0 then(bi (some y32) fun v=>some (.out v)) else(bi (bif decide (((i3:Int):Int)>0) then(bi (getZ l (wi ((i3:Int) - 1))) fun x41=>bi (Kyd x41 x5) fun y43=>some (decide ((y43:Int)≥0))) else(some false)) fun q38=>bif q38 then(bi (some 7) fun v=>some (.out v)) else(some (.go ())))))) l 0 (chkE k l) (fun j x hx=>by
  have hm:=mOg hx
  obtain⟨k1,k2,_,_⟩:=keys x hm
  simp only[Nat.zero_add]
  rw[(Ksr x.At).1,k1,k2,(Ksq k (by omega) x.Value (hs x hm).2.2).1,step j x hx]
  unfold chkE
  simp only[bi_some]
  cases momB x.At with
  | false=>rfl
  | true=>
   cases keyB x.Node with
   | false=>rfl
   | true=>
    cases keyB x.Name with
    | false=>rfl
    | true=>
     simp only[Bool.not_true,cond_false,Bool.or_self,bi_some,Bool.false_eq_true,if_false]
     by_cases ha:attrE k x.Value=0
     ·rw[ha]
      simp only[bne_self_eq_false,cond_false,ne_eq,not_true_eq_false,if_false]
      by_cases h7:0<j∧0≤cC (l.getD (j - 1) x) x
      ·rw[dT h7,if_pos h7];rfl
      ·rw[dF h7,if_neg h7];rfl
     ·have hb:(attrE k x.Value != 0)=true:=by simpa using ha
      rw[hb,if_pos ha]
      simp[ha])
 have h1':rangeM (σ:=Unit) (ρ:=Int) (fun i3 x5 s4=>bi (Kza x5.At) fun y14=>bif !y14 then(bi (some 1) fun v=>some (.out v)) else(bi (Kzc x5.Node) fun y20=>bi (bif !y20 then(some true) else(bi (Kzc x5.Name) fun y26=>some (!y26))) fun q22=>bif q22 then(bi (some 5) fun v=>some (.out v)) else(bi (Kze k x5.Value) fun y32=>bif (y32:Int) != 0 then(bi (some y32) fun v=>some (.out v)) else(bi (bif decide (((i3:Int):Int)>0) then(bi (getZ l (wi ((i3:Int) - 1))) fun x41=>bi (Kzf x41 x5) fun y43=>some (decide ((y43:Int)≥0))) else(some false)) fun q38=>bif q38 then(bi (some 7) fun v=>some (.out v)) else(some (.go ())))))) 0 l ()=some (if r=0 then .go () else .out r):=by
  rw[←h1]
  have congr_M:∀ {f g:Nat→Kxb→Unit→Option (LS Unit Int)} (l':List Kxb) (i:Nat),(∀ x∈l',∀ j,f j x ()=g j x ())→rangeM f i l' ()=rangeM g i l' ():=fun {f g} l'=>by
   induction l' with
   | nil=>intro i _;rfl
   | cons x l' ih=>
    intro i h
    simp only[rangeM,h x List.mem_cons_self i]
    cases g i x () with
    | none=>rfl
    | some y=>cases y with
     | go s=>exact ih (i+1) fun y hy=>h y (mCo _ hy)
     | out v=>rfl
  refine congr_M l 0 fun x hm j=>?_
  obtain⟨k1,k2,k3,k4⟩:=keys x hm
  obtain⟨a1,a2⟩:=Ksq k (by omega) x.Value (hs x hm).2.2
  rw[(Ksr x.At).1,(Ksr x.At).2,k1,k2,k3,k4,a1,a2]
  rfl
 refine⟨r,?_,?_,fun hr=>?_⟩
 ·unfold Kye
  rw[dF (show ¬ (l.length:Int)>2000 by omega),cond_false,h1]
  by_cases hr:r=0
  ·rw[if_pos hr,hr];rfl
  ·rw[if_neg hr];rfl
 ·unfold Kzg
  rw[dF (show ¬ (l.length:Int)>2000 by omega),cond_false,h1']
  by_cases hr:r=0
  ·rw[if_pos hr,hr];rfl
  ·rw[if_neg hr];rfl
 ·have hz:=h2 hr
  have adj:∀ i (hi:i+1<l.length),cL l[i] l[i+1]=true:=fun i hi=>by
   have:=hz (i+1) l[i+1] (gGe hi)
   rw[Nat.zero_add] at this
   unfold chkE at this
   split at this
   ·cases this
   ·split at this
    ·cases this
    ·split at this
     ·rename_i h;exact absurd this h
     ·split at this
      ·cases this
      ·rename_i h
       rw[List.getD_eq_getElem?_getD,show i+1 - 1=i by omega,gGe (show i<l.length by omega)] at h
       rw[←Ktq]
       refine dT ?_
       have h':¬ (0:Int)≤cC l[i] l[i+1]:=fun h''=>h ⟨by omega,h''⟩
       omega
  exact List.pairwise_iff_getElem.2 fun i j hi hj hij=>by
   obtain⟨d,rfl⟩:∃ d,j=i+1+d:=⟨j - (i+1),by omega⟩
   clear hij
   induction d with
   | zero=>exact adj i hj
   | succ d ih=>
    have h1:=ih (by omega)
    have h2:=adj (i+1+d) hj
    cases h3:cL l[i] l[i+1+(d+1)] with
    | true=>rfl
    | false=>
     have h4:=Ktr.sy _ _ h2
     have:=Ktr.tr _ _ _ h3 h4
     rw[h1] at this
     cases this
end Go.Gk
namespace Go.Gk
def adjB:List Kxb→Bool
 | a :: b :: r=>decide (cC a b=0)||adjB (b :: r)
 | _=>false
theorem Ktx{ρ:Type}(v:ρ)(L:List Kxb)(hL:L.length≤1000){f:Int→Option (LS Int (Unit ⊕ ρ))}
  (hf:∀ s,f s=bif decide ((s:Int)<(L.length:Int)) then(bi (getZ L (wi (s - 1))) fun x42=>bi (getZ L s) fun x45=>bi (Kyd x42 x45) fun y48=>bif (y48:Int)==0 then(bi (some v) fun v=>some (.out (.inr v))) else(some (.go (wi (s+1))))) else(some (.out (.inl ())))) :
  ∀ (n k i:Nat),n=L.length - (i+1)→i+1≤max 1 L.length→n<k→loopM f k ((i+1:Nat):Int)=some (if adjB (L.drop i) then .inr v else .inl ())
 | n,0,i,_,_,h=>absurd h (Nat.not_lt_zero _)
 | n,k+1,i,hn,hi,hk=>by
  by_cases hlt:i+1<L.length
  ·have e1:L.drop i=L[i] :: L[i+1] :: L.drop (i+2):=by
    rw[List.drop_eq_getElem_cons (by omega),List.drop_eq_getElem_cons hlt]
   have e2:L.drop (i+1)=L[i+1] :: L.drop (i+2):=List.drop_eq_getElem_cons hlt
   have hs:f ((i+1:Nat):Int)=some (if cC L[i] L[i+1]=0 then .out (.inr v) else .go ((i+2:Nat):Int)):=by
    rw[hf,dT (show((i+1:Nat):Int)<(L.length:Int) by omega),cond_true,Kvu (by omega) (by omega),show((i+1:Nat):Int) - 1=(i:Int) by omega,Kwj (gGe (show i<L.length by omega)),bi_some,Kwj (gGe hlt),bi_some,cmpC,bi_some,Kvu (by omega) (by omega)]
    by_cases h0:cC L[i] L[i+1]=0
    ·rw[if_pos h0,h0];rfl
    ·rw[if_neg h0,show(cC L[i] L[i+1]==0)=false by simpa using h0]
     simp only[cond_false,Option.some.injEq,LS.go.injEq]
     omega
   rw[e1,adjB]
   by_cases h0:cC L[i] L[i+1]=0
   ·rw[if_pos h0] at hs
    rw[Kbm _ hs,dT h0];rfl
   ·rw[if_neg h0] at hs
    rw[Kbl _ hs,dF h0,Bool.false_or,←e2]
    exact Ktx v L hL hf (n - 1) k (i+1) (by omega) (by omega) (by omega)
  ·have hs:f ((i+1:Nat):Int)=some (.out (.inl ())):=by
    rw[hf,dF (show ¬ ((i+1:Nat):Int)<(L.length:Int) by omega)];rfl
   rw[Kbm _ hs]
   have:adjB (L.drop i)=false:=by
    have hl:(L.drop i).length≤1:=by rw[List.length_drop];omega
    match L.drop i,hl with
    | [],_=>rfl
    | [a],_=>rfl
    | a :: b :: r,h=>simp at h
   rw[this];rfl
theorem Kty{a b:Kxb}(h1:cL a b=false)(h2:cL b a=false):cC a b=0:=by
 rw[←Ktq] at h1 h2
 have g1:¬ cC a b<0:=of_decide_eq_false h1
 have g2:¬ cC b a<0:=of_decide_eq_false h2
 rw[Ktp]
 rw[Ktq] at h1 h2
 unfold cL at h1 h2
 simp only[Bool.or_eq_false_iff,Bool.and_eq_false_iff,decide_eq_false_iff_not] at h1 h2
 have e:a.At=b.At:=by omega
 obtain⟨p1,p2⟩:=h1.2.resolve_left (by omega)
 obtain⟨q1,q2⟩:=h2.2.resolve_left (by omega)
 have e2:a.Node=b.Node:=Ktk _ _ p1 q1
 refine⟨e,e2,Ktk _ _ (p2.resolve_left (by simpa using e2)) (q2.resolve_left (by simpa using e2.symm))⟩
theorem Ktz{a b:Kxb}(h:cC a b=0):cC b a=0:=by
 rw[Ktp] at *
 exact⟨h.1.symm,h.2.1.symm,h.2.2.symm⟩
theorem Kua:∀ {L:List Kxb},Srtd L→adjB L=false→L.Pairwise fun x y=>cL x y=true
 | [],_,_=>List.Pairwise.nil
 | [a],_,_=>List.pairwise_singleton _ _
 | a :: b :: r,hs,h=>by
  unfold adjB at h
  rw[Bool.or_eq_false_iff] at h
  have h0:cC a b≠0:=of_decide_eq_false h.1
  obtain⟨hs1,hs2⟩:=List.pairwise_cons.1 hs
  have ih:=Kua hs2 h.2
  have hab:cL a b=true:=by
   cases hc:cL a b with
   | true=>rfl
   | false=>exact absurd (Kty hc (hs1 b mCs)) h0
  refine List.pairwise_cons.2 ⟨fun x hx=>?_,ih⟩
  rcases List.mem_cons.1 hx with rfl | hx
  ·exact hab
  have hbx:=(List.pairwise_cons.1 ih).1 x hx
  cases hc:cL a x with
  | true=>rfl
  | false=>
   have:=Ktr.tr _ _ _ hc (Ktr.sy _ _ hbx)
   rw[hab] at this
   cases this
theorem Kub:∀ {L:List Kxb},adjB L=true→∃ i a b,L[i]?=some a∧L[i+1]?=some b∧cC a b=0
 | [],h=>by cases h
 | [a],h=>by cases h
 | a :: b :: r,h=>by
  unfold adjB at h
  rw[Bool.or_eq_true] at h
  rcases h with h | h
  ·exact⟨0,a,b,rfl,rfl,of_decide_eq_true h⟩
  obtain⟨i,x,y,h1,h2,h3⟩:=Kub h
  exact⟨i+1,x,y,by simpa using h1,by simpa using h2,h3⟩
theorem Kuc{L:List Kxb}(h:L.Pairwise fun x y=>cL x y=true){a b:Kxb}(ha:a∈L)(hb:b∈L)(hc:cC a b=0):a=b:=by
 obtain⟨i,hi⟩:=List.getElem?_of_mem ha
 obtain⟨j,hj⟩:=List.getElem?_of_mem hb
 have hil:=(gEs.1 hi).1
 have hjl:=(gEs.1 hj).1
 have ei:=(gEs.1 hi).2
 have ej:=(gEs.1 hj).2
 have hp:=List.pairwise_iff_getElem.1 h
 have no:∀ {x y:Kxb},cL x y=true→cC x y=0→False:=fun {x y} h1 h2=>by
  rw[←Ktq,h2] at h1
  cases h1
 rcases Nat.lt_trichotomy i j with hij | rfl | hij
 ·exact(no (by have:=hp i j hil hjl hij;rw[ei,ej] at this;exact this) hc).elim
 ·rw[←ei,←ej]
 exact(no (by have:=hp j i hjl hil hij;rw[ei,ej] at this;exact this) (Ktz hc)).elim
theorem Kud(s:List Kxb)(v:Kxb)(hs:s.length≤1000):Kzo s v=some (decide (v∈s)):=by
 unfold Kzo Kzn
 have key:∀ (l:List Kxb) (i:Nat),(rangeM (σ:=Unit) (ρ:=Int) (fun i1 x3 s2=>bif (((v.At:Int)==x3.At)&&(((v.Node:Str)==x3.Node)&&(((v.Name:Str)==x3.Name)&&((((v.Value.Kind:Int)==x3.Value.Kind)&&(((v.Value.Number:Int)==x3.Value.Number)&&(((v.Value.Words:Str)==x3.Value.Words)&&(decide (([v.Value.Version.1,v.Value.Version.2.1,v.Value.Version.2.2.1,v.Value.Version.2.2.2]:List Int)=[x3.Value.Version.1,x3.Value.Version.2.1,x3.Value.Version.2.2.1,x3.Value.Version.2.2.2])&&true))))&&true)))) then(bi (some (i1:Int)) fun v=>some (.out v)) else(some (.go ()))) i l ()=some (.go ())∧v ∉ l)∨∃ j:Nat,rangeM (σ:=Unit) (ρ:=Int) (fun i1 x3 s2=>bif (((v.At:Int)==x3.At)&&(((v.Node:Str)==x3.Node)&&(((v.Name:Str)==x3.Name)&&((((v.Value.Kind:Int)==x3.Value.Kind)&&(((v.Value.Number:Int)==x3.Value.Number)&&(((v.Value.Words:Str)==x3.Value.Words)&&(decide (([v.Value.Version.1,v.Value.Version.2.1,v.Value.Version.2.2.1,v.Value.Version.2.2.2]:List Int)=[x3.Value.Version.1,x3.Value.Version.2.1,x3.Value.Version.2.2.1,x3.Value.Version.2.2.2])&&true))))&&true)))) then(bi (some (i1:Int)) fun v=>some (.out v)) else(some (.go ()))) i l ()=some (.out (j:Int))∧v∈l:=by
  intro l
  induction l with
  | nil=>intro i;exact .inl ⟨rfl,by simp⟩
  | cons x l ih=>
   intro i
   simp only[rangeM,eqE]
   by_cases h:v=x
   ·rw[dT h]
    exact .inr ⟨i,rfl,by rw[h];exact mCs⟩
   rw[dF h]
   simp only[cond_false]
   rcases ih (i+1) with⟨h1,h2⟩ | ⟨j,h1,h2⟩
   ·simp only[eqE] at h1
    exact .inl ⟨h1,by simp[h,h2]⟩
   simp only[eqE] at h1
   exact .inr ⟨j,h1,mCo _ h2⟩
 rcases key s 0 with⟨h1,h2⟩ | ⟨j,h1,h2⟩
 ·rw[h1,dF h2];rfl
 rw[h1,dT h2]
 simp only[bi_some,goI]
 rw[dT (show(j:Int)≥0 by omega)]
end Go.Gk
namespace Go.Gk
theorem Kue(s:List Kxb):∀ m,m≤s.length→(dd s m).Sublist (s.take m)
 | 0,_=>by simp[dd]
 | m+1,h=>by
  have ih:=Kue s m (by omega)
  have e:dd s (m+1)=if 0<m∧s[m]?=s[m - 1]? then dd s m else dd s m++(s[m]?).toList:=rfl
  rw[e,List.take_add_one]
  split
  ·exact ih.trans (List.sublist_append_left _ _)
  exact ih.append (List.Sublist.refl _)
theorem Kuf(s:List Kxb):∀ m,0<m→m≤s.length→(dd s m).getLast?=s[m - 1]?
 | 0,h,_=>absurd h (by omega)
 | m+1,_,h=>by
  have e:dd s (m+1)=if 0<m∧s[m]?=s[m - 1]? then dd s m else dd s m++(s[m]?).toList:=rfl
  rw[e]
  split
  ·rename_i hd
   rw[Kuf s m hd.1 (by omega),←hd.2];rfl
  rw[gGe (show m<s.length by omega)]
  simp
theorem Kug(s:List Kxb):∀ m,m≤s.length→∀ i a b,(dd s m)[i]?=some a→(dd s m)[i+1]?=some b→a≠b
 | 0,_,i,a,b,h,_=>by simp[dd] at h
 | m+1,hm,i,a,b,ha,hb=>by
  have e:dd s (m+1)=if 0<m∧s[m]?=s[m - 1]? then dd s m else dd s m++(s[m]?).toList:=rfl
  rw[e] at ha hb
  split at ha
  ·rename_i hd
   rw[if_pos hd] at hb
   exact Kug s m (by omega) i a b ha hb
  rename_i hd
  rw[if_neg hd] at hb
  have hx:=gGe (show m<s.length by omega)
  rw[hx] at ha hb hd
  simp only[Option.toList_some] at ha hb
  by_cases hi:i+1<(dd s m).length
  ·rw[gAl hi] at hb
   rw[gAl (by omega)] at ha
   exact Kug s m (by omega) i a b ha hb
  have hbl:=(gEs.1 hb).1
  rw[List.length_append,List.length_singleton] at hbl
  have hie:i+1=(dd s m).length:=by omega
  rw[gAr (by omega),hie,Nat.sub_self] at hb
  simp at hb
  rw[gAl (by omega)] at ha
  have hm0:0<m:=by
   cases m with
   | zero=>simp[dd] at hie
   | succ m=>omega
  have hl:=Kuf s m hm0 (by omega)
  rw[List.getLast?_eq_getElem?,show(dd s m).length - 1=i by omega,ha] at hl
  intro hab
  subst hab
  exact hd ⟨hm0,by rw[←hl,←hb]⟩
theorem Kuh{L:List Kxb}(h:L.Pairwise fun x y=>cL x y=true):L.Nodup:=h.imp fun {a b} hab e=>by
 subst e
 rw[Ktr.sy _ _ hab] at hab
 cases hab
theorem Kui(A B:List Kxb)(hl:A.length+B.length≤900)(hA:A.Nodup):∃ O,rangeF (σ:=List Kxb) (fun i3 x5 s4=>bi (Kzo s4 x5) fun y14=>bif !y14 then(bi (apd s4 [x5]) fun y17=>some y17) else(some s4)) 0 B A=some O∧O.Nodup∧O.length≤A.length+B.length∧∀ x,x∈O ↔ x∈A∨x∈B:=by
 have key:∀ (B:List Kxb) (i:Nat) (A:List Kxb),A.length+B.length≤900→A.Nodup→∃ O,rangeF (σ:=List Kxb) (fun i3 x5 s4=>bi (Kzo s4 x5) fun y14=>bif !y14 then(bi (apd s4 [x5]) fun y17=>some y17) else(some s4)) i B A=some O∧O.Nodup∧O.length≤A.length+B.length∧∀ x,x∈O ↔ x∈A∨x∈B:=by
  intro B
  induction B with
  | nil=>intro i A _ hA;exact⟨A,rfl,hA,by simp,fun x=>by simp⟩
  | cons b B ih=>
   intro i A hl hA
   simp only[List.length_cons] at hl
   simp only[rangeF]
   rw[Kud A b (by omega),bi_some]
   by_cases hb:b∈A
   ·rw[dT hb]
    simp only[Bool.not_true,cond_false,bi_some]
    obtain⟨O,h1,h2,h3,h4⟩:=ih (i+1) A (by omega) hA
    refine⟨O,h1,h2,by simp only[List.length_cons];omega,fun x=>?_⟩
    rw[h4,List.mem_cons]
    exact⟨fun h=>h.imp id .inr,fun h=>h.elim .inl fun h=>h.elim (fun e=>.inl (e▸hb)) .inr⟩
   rw[dF hb]
   simp only[Bool.not_false,cond_true]
   rw[Kwa (by simp only[List.length_singleton];omega)]
   simp only[bi_some]
   obtain⟨O,h1,h2,h3,h4⟩:=ih (i+1) (A++[b]) (by simp only[List.length_append,List.length_singleton];omega) (List.nodup_append.2 ⟨hA,by simp,fun x hx y hy=>by rw[List.mem_singleton.1 hy];exact fun e=>hb (e▸hx)⟩)
   rw[List.length_append,List.length_singleton] at h3
   refine⟨O,h1,h2,by rw[List.length_cons];omega,fun x=>?_⟩
   rw[h4,List.mem_append,List.mem_singleton,List.mem_cons]
   exact⟨fun h=>h.elim (fun h=>h.imp id .inl) fun h=>.inr (.inr h),fun h=>h.elim (fun h=>.inl (.inl h)) fun h=>h.elim (fun e=>.inl (.inr e)) .inr⟩
 exact key B 0 A hl hA
theorem Kuj(k:Nat)(hk:2000<k)(A B:List Kxb)(hl:A.length+B.length<60)(hA:A.Pairwise fun x y=>cL x y=true)(hB:B.Pairwise fun x y=>cL x y=true) :
  ∃ q e,(bi (Kxr A) fun y21=>bi (apd y21 B) fun y23=>bi (Kyt k y23) fun y25=>gd (decide (y25.length=y23.length)) (bi (Kyu k y25) fun y29=>bi (loopM (σ:=Int) (ρ:=Unit ⊕ ((List Kxb)×Int)) (fun s32=>bif decide ((s32:Int)<(y29.length:Int)) then(bi (getZ y29 (wi (s32 - 1))) fun x42=>bi (getZ y29 s32) fun x45=>bi (Kyd x42 x45) fun y48=>bif (y48:Int)==0 then(bi (some ([],13)) fun v=>some (.out (.inr v))) else(some (.go (wi (s32+1))))) else(some (.out (.inl ())))) k 1) fun q=>orI q fun a36=>bif decide (((y29.length:Int):Int)>2000) then(some ([],2)) else(some (y29,0))))=some (q,e)∧
   Kzq k A B=some (q,e):=by
 have hcl:∀ L:List Kxb,L.length≤1000→Kxr L=some L:=fun L h=>by
  unfold Kxr
  rw[Kwa (by simp;omega)];rfl
 obtain⟨S,s1,s2,s3,s4⟩:=Lfa k (by omega) (A++B) (by simp;omega)
 have hSl:S.length<60:=by rw[s3];simpa using hl
 have hC:=Ksw k S (by omega) (by omega)
 obtain⟨O,o1,o2,o3,o4⟩:=Kui A B (by omega) (Kuh hA)
 have hCl:=Ksu S S.length
 have hCs:Srtd (dd S S.length):=List.Pairwise.sublist (by simpa using Kue S S.length (Nat.le_refl _)) s2
 have hCm:∀ x,x∈dd S S.length ↔ x∈A∨x∈B:=fun x=>by
  rw[Ksv S x S.length (Nat.le_refl _),List.take_length,s4.mem_iff,List.mem_append]
 have hP:=Ktx (ρ:=(List Kxb)×Int) ([],13) (dd S S.length) (by omega) (fun _=>rfl) ((dd S S.length).length - 1) k 0 (by omega) (by omega) (by omega)
 rw[List.drop_zero] at hP
 have e1:((0+1:Nat):Int)=1:=rfl
 rw[e1] at hP
 simp only[bi_some] at hP o1
 refine⟨if adjB (dd S S.length)=true then[] else dd S S.length,if adjB (dd S S.length)=true then 13 else 0,?_,?_⟩
 ·rw[hcl A (by omega)]
  simp only[bi_some]
  rw[Kwa (by omega)]
  simp only[bi_some]
  rw[s1]
  simp only[bi_some,decide_eq_true s3,gd,cond_true]
  rw[hC]
  simp only[bi_some]
  rw[hP]
  cases h:adjB (dd S S.length) with
  | true=>rfl
  | false=>
   simp only[Bool.false_eq_true,if_false,bi_some,orI]
   rw[dF (show ¬ ((dd S S.length).length:Int)>2000 by omega)]
   rfl
 ·unfold Kzq Kzp
  rw[hcl A (by omega)]
  simp only[bi_some]
  rw[o1]
  simp only[bi_some]
  rw[Lfb (v:=if adjB (dd S S.length)=true then([],false) else(dd S S.length,true)) (by omega) ?_]
  ·cases h:adjB (dd S S.length) with
   | true=>rfl
   | false=>
    simp only[Bool.false_eq_true,if_false,bi_some]
    rw[dF (show ¬ ((dd S S.length).length:Int)>2000 by omega)]
    rfl
  ·intro T t2 t3 t4
   simp only[decide_eq_true t3,gd,cond_true]
   have hTm:∀ x,x∈T ↔ x∈A∨x∈B:=fun x=>by rw[t4.mem_iff,o4]
   have hTn:T.Nodup:=t4.nodup_iff.2 o2
   have hR:=Ktx (ρ:=(List Kxb)×Bool) ([],false) T (by omega) (fun _=>rfl) (T.length - 1) k 0 (by omega) (by omega) (by omega)
   rw[List.drop_zero,e1] at hR
   simp only[bi_some] at hR
   have conf:adjB (dd S S.length)=adjB T:=by
    cases h1:adjB (dd S S.length) with
    | true=>
     cases h2:adjB T with
     | true=>rfl
     | false=>
      obtain⟨i,a,b,ha,hb,hc⟩:=Kub h1
      have hT:=Kua t2 h2
      have:=Kuc hT ((hTm a).2 ((hCm a).1 (mOg ha))) ((hTm b).2 ((hCm b).1 (mOg hb))) hc
      exact absurd this (Kug S S.length (Nat.le_refl _) i a b ha hb)
    | false=>
     cases h2:adjB T with
     | false=>rfl
     | true=>
      obtain⟨i,a,b,ha,hb,hc⟩:=Kub h2
      have hC:=Kua hCs h1
      have e:=Kuc hC ((hCm a).2 ((hTm a).1 (mOg ha))) ((hCm b).2 ((hTm b).1 (mOg hb))) hc
      subst e
      have hil:=(gEs.1 ha).1
      have hjl:=(gEs.1 hb).1
      have hx:=List.pairwise_iff_getElem.1 hTn i (i+1) hil hjl (by omega)
      exact absurd (((gEs.1 ha).2).trans ((gEs.1 hb).2).symm) hx
   have hrc:@Kzf=@Kyd:=rfl
   rw[hrc,hR,conf]
   cases h:adjB T with
   | true=>rfl
   | false=>
    have hE:dd S S.length=T:=Kuz (Kua hCs (by rw[conf];exact h)) (Kua t2 h) fun x=>by rw[hCm,hTm]
    rw[hE]
    rfl
end Go.Gk
