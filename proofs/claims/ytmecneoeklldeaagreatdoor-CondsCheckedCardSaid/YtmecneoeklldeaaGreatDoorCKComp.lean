import Derived.Test.YtmecneoeklldeaaGreatDoorCOk
set_option linter.all false
set_option maxRecDepth 100000
namespace Go.Gk
def dd(s:List Str):Nat→List Str
 | 0=>[]
 | m+1=>if 0<m∧s[m]?=s[m - 1]? then dd s m else dd s m++(s[m]?).toList
theorem Kbh(s:List Str)(x:Str):∀ m,m≤s.length→(x∈dd s m ↔ x∈s.take m)
 | 0,_=>by simp[dd]
 | m+1,h=>by
  have ih:=Kbh s x m (by omega)
  have hm:=gGe (show m<s.length by omega)
  have e:dd s (m+1)=if 0<m∧s[m]?=s[m - 1]? then dd s m else dd s m++(s[m]?).toList:=rfl
  rw[List.take_add_one,List.mem_append,←ih,e]
  split
  ·rename_i hd
   refine⟨fun h=>.inl h,fun h=>h.elim id fun h=>?_⟩
   rw[hd.2] at h
   have h1:s[m - 1]?=some x:=by simpa using h
   rw[ih]
   refine mOg (i:=m - 1) ?_
   rw[List.getElem?_take_of_lt (by omega)]
   exact h1
  rw[List.mem_append]
def RS(x y:Str):Prop:=x≤y∧x≠y
theorem Kbi(s:List Str)(hs:s.Pairwise (·≤·)):∀ m,m≤s.length→(dd s m).Pairwise RS
 | 0,_=>List.Pairwise.nil
 | m+1,h=>by
  have ih:=Kbi s hs m (by omega)
  unfold dd
  split
  ·exact ih
  rename_i hd
  have hm:=gGe (show m<s.length by omega)
  rw[hm]
  refine List.pairwise_append.2 ⟨ih,List.pairwise_singleton ..,fun x hx y hy=>?_⟩
  simp only[Option.toList_some,List.mem_singleton] at hy
  subst hy
  have hx:=(Kbh s x m (by omega)).1 hx
  obtain⟨j,hj⟩:=List.getElem?_of_mem hx
  have hjm:j<m:=by have:=(gEs.1 hj).1;simp at this;omega
  rw[List.getElem?_take_of_lt hjm] at hj
  have hjl:j<s.length:=by omega
  have e1:s[j]=x:=by rw[gGe hjl] at hj;exact oSi hj
  have hpw:=List.pairwise_iff_getElem.1 hs
  have l1:s[j]≤s[m - 1]:=by
   by_cases e:j=m - 1
   ·subst e;exact List.le_refl _
   exact hpw j (m - 1) _ (by omega) (by omega)
  have l2:s[m - 1]≤s[m]:=hpw (m - 1) m _ (by omega) (by omega)
  have hne:s[m]≠s[m - 1]:=fun e=>hd ⟨by omega,by rw[hm,gGe (by omega),e]⟩
  rw[e1] at l1
  exact⟨List.le_trans l1 l2,fun e=>hne (List.le_antisymm (e▸l1) l2)⟩
theorem Kbj(k:Nat)(s:List Str)(hk:s.length+2≤k)(hl:s.length≤4294967296):Kwx k s=some (dd s s.length):=by
 unfold Kwx
 by_cases h2:s.length<2
 ·rw[dT (by omega)]
  simp only[cond_true]
  match s,h2 with
  | [],_=>rfl
  | [x],_=>rfl
 rw[dF (by omega)]
 simp only[cond_false]
 refine Kuc (I:=fun i:Int=>1≤i∧i≤s.length∧dd s i.toNat=s.take i.toNat) (μ:=fun i=>(s.length - i.toNat)) (Q:=fun r=>r=.inl ()∧dd s s.length=s∨r=.inr (dd s s.length)) ?_ ⟨by omega,by omega,?_⟩ (by simp;omega) ?_
 ·rintro i ⟨h1,hi,hd⟩
  by_cases hlt:i<s.length
  ·rw[dT hlt]
   simp only[cond_true]
   obtain⟨j,rfl⟩:=Int.eq_ofNat_of_zero_le (show 0≤i by omega)
   simp only[Int.toNat_natCast] at hd ⊢
   have hj:j<s.length:=by omega
   have w1:wi ((j:Int) - 1)=((j - 1:Nat):Int):=by rw[Ktr (by omega) (by omega)];omega
   have w2:wi ((j:Int)+1)=((j+1:Nat):Int):=by rw[Ktr (by omega) (by omega)];omega
   rw[Kuh (gGe hj),w1,Kuh (gGe (show j - 1<s.length by omega))]
   simp only[bi_some]
   have hds:dd s (j+1)=if s[j]=s[j - 1] then s.take j else s.take (j+1):=by
    rw[dd,gGe hj,gGe (show j - 1<s.length by omega),hd,List.take_add_one,gGe hj]
    simp[show 0<j by omega]
   by_cases he:s[j]=s[j - 1]
   ·rw[if_pos he] at hds
    have:((s[j]:Str)==s[j - 1])=true:=by simpa using he
    rw[this]
    simp only[cond_true]
    have hz:subZ s (j:Int) (s.length:Int)=some (s.drop j):=by
     have e:=Kug (l:=s) (i:=j) (j:=s.length) (by omega) (by omega)
     rw[e]
     simp
    rw[hz]
    simp only[bi_some]
    refine .inl ⟨.inr (dd s s.length),?_,.inr rfl⟩
    refine Kuc (I:=fun t:List Str×Int×Int=>t.1.length=s.length∧1≤t.2.2∧j+t.2.2≤s.length∧0≤t.2.1∧t.2.1≤j+t.2.2 - 1∧dd s (j+t.2.2.toNat)=t.1.take t.2.1.toNat∧∀ q,j+t.2.2.toNat - 1≤q→t.1[q]?=s[q]?)
     (μ:=fun t=>s.length - (j+t.2.2.toNat)) (Q:=fun r=>r.1.length=s.length∧0≤r.2∧r.2≤s.length∧dd s s.length=r.1.take r.2.toNat) ?_ ⟨rfl,by simp,by simp;omega,by simp,by simp,by simpa using hds,fun _ _=>rfl⟩ (by simp;omega) ?_
    ·rintro⟨cur,w,q⟩ ⟨i1,i2,i3,i4,i5,i6,i7⟩
     simp only at i1 i2 i3 i4 i5 i6 i7 ⊢
     obtain⟨q,rfl⟩:=Int.eq_ofNat_of_zero_le (show 0≤q by omega)
     obtain⟨w,rfl⟩:=Int.eq_ofNat_of_zero_le i4
     simp only[Int.toNat_natCast] at *
     have hdl:(s.drop j).length=s.length - j:=by simp
     by_cases hq:(q:Int)<((s.drop j).length:Int)
     ·rw[dT hq]
      rw[hdl] at hq
      simp only[cond_true]
      have v1:wi ((q:Int) - 1)=((q - 1:Nat):Int):=by rw[Ktr (by omega) (by omega)];omega
      have v2:wi ((q:Int)+1)=((q+1:Nat):Int):=by rw[Ktr (by omega) (by omega)];omega
      have v3:wi ((w:Int)+1)=((w+1:Nat):Int):=by rw[Ktr (by omega) (by omega)];omega
      have g1:(s.drop j)[q]?=some s[j+q]:=by rw[List.getElem?_drop,gGe (by omega)]
      have g2:(s.drop j)[q - 1]?=some s[j+q - 1]:=by rw[List.getElem?_drop,gGe (by omega)];congr 2;omega
      have g3:cur[j+q]?=some s[j+q]:=by rw[i7 _ (by omega),gGe (by omega)]
      have g4:cur[j+(q - 1)]?=some s[j+q - 1]:=by rw[i7 _ (by omega),gGe (by omega)];congr 2;omega
      have g5:∃ u,cur[w]?=some u:=⟨_,gGe (by omega)⟩
      obtain⟨u,g5⟩:=g5
      rw[Kuh g1,v1]
      simp only[bi_some,Int.toNat_natCast]
      rw[Kuh g3,Kuh g2,Kuh g4,Kuh g5]
      simp only[bi_some]
      have hdq:dd s (j+(q+1))=if s[j+q]=s[j+q - 1] then dd s (j+q) else dd s (j+q)++[s[j+q]]:=by
       rw[←Nat.add_assoc,dd,gGe (show j+q<s.length by omega),gGe (show j+q - 1<s.length by omega)]
       simp[show 0<j+q by omega]
      by_cases hne:s[j+q]=s[j+q - 1]
      ·have e:(!((s[j+q]:Str)==s[j+q - 1]))=false:=by simpa using hne
       rw[e,v2]
       rw[if_pos hne] at hdq
       refine .inr ⟨_,rfl,⟨i1,by simp;omega,by simp;omega,by simp,by simp;omega,by simpa [hdq] using i6,fun p hp=>i7 p (by simp at hp;omega)⟩,by simp;omega⟩
      have e:(!((s[j+q]:Str)==s[j+q - 1]))=true:=by simpa using hne
      rw[e,v2,v3]
      rw[if_neg hne] at hdq
      refine .inr ⟨_,rfl,⟨by simpa using i1,by simp;omega,by simp;omega,by simp;omega,by simp;omega,?_,fun p hp=>?_⟩,by simp;omega⟩
      ·simp only[Int.toNat_natCast]
       rw[hdq,i6,List.take_add_one,gSs (by omega),List.take_set_of_le (Nat.le_refl _)]
       rfl
      simp only[Int.toNat_natCast] at hp
      rw[gSn (by omega)]
      exact i7 p (by omega)
     rw[dF hq]
     rw[hdl] at hq
     refine .inl ⟨_,rfl,i1,by simp,by simp;omega,?_⟩
     simp only[Int.toNat_natCast]
     rw[←i6]
     congr 1
     omega
    rintro⟨cur,w⟩ ⟨r1,r2,r3,r4⟩
    simp only at r1 r2 r3 r4 ⊢
    obtain⟨w,rfl⟩:=Int.eq_ofNat_of_zero_le r2
    have e:=Kug (l:=cur) (i:=w) (j:=cur.length) (by omega) (by omega)
    rw[e]
    simp only[bi_some,Int.toNat_natCast] at r4 ⊢
    rw[r4]
   rw[if_neg he] at hds
   have:((s[j]:Str)==s[j - 1])=false:=by simpa using he
   rw[this,w2]
   exact .inr ⟨_,rfl,⟨by omega,by omega,by simpa using hds⟩,by simp;omega⟩
  rw[dF hlt]
  refine .inl ⟨_,rfl,.inl ⟨rfl,?_⟩⟩
  have:i.toNat=s.length:=by omega
  rw[this] at hd
  simpa using hd
 ·simp only[dd,Int.reduceToNat]
  simp[List.take_add_one]
 rintro r (⟨rfl,h⟩ | rfl)
 ·simp only[orI]
  rw[h]
 rfl
theorem Kbk:∀ {a b:List Str},a.Pairwise RS→b.Pairwise RS→(∀ x,x∈a ↔ x∈b)→a=b
 | [],[],_,_,_=>rfl
 | [],y :: b,_,_,h=>by have:=(h y).2 (mCs ..);cases this
 | x :: a,[],_,_,h=>by have:=(h x).1 (mCs ..);cases this
 | x :: a,y :: b,ha,hb,h=>by
  obtain⟨a1,a2⟩:=List.pairwise_cons.1 ha
  obtain⟨b1,b2⟩:=List.pairwise_cons.1 hb
  have e:x=y:=by
   have h1:=(h x).1 (mCs ..)
   have h2:=(h y).2 (mCs ..)
   rcases List.mem_cons.1 h1 with h1 | h1
   ·exact h1
   rcases List.mem_cons.1 h2 with h2 | h2
   ·exact h2.symm
   exact List.le_antisymm (a1 y h2).1 (b1 x h1).1
  subst e
  congr 1
  refine Kbk a2 b2 fun z=>?_
  have hz:=h z
  simp only[List.mem_cons] at hz
  constructor
  ·intro hm
   rcases hz.1 (.inr hm) with rfl | h'
   ·exact absurd rfl (a1 z hm).2
   exact h'
  intro hm
  rcases hz.2 (.inr hm) with rfl | h'
  ·exact absurd rfl (b1 z hm).2
  exact h'
theorem Kbl(l:List Str):(l.mergeSort fun x y=>decide (x≤y)).Pairwise (·≤·):=by
 have:=List.pairwise_mergeSort (le:=fun x y:Str=>decide (x≤y)) (fun a b c h1 h2=>by simp only[decide_eq_true_eq] at *;exact List.le_trans h1 h2) (fun a b=>by simp only[Bool.or_eq_true,decide_eq_true_eq];exact List.le_total a b) l
 exact this.imp fun h=>by simpa using h
def rise(l:List Str):List Str:=dd (l.mergeSort fun x y=>decide (x≤y)) l.length
theorem Kbm(l:List Str):(rise l).Pairwise RS:=Kbi _ (Kbl l) _ (by simp)
theorem Kbn(l:List Str)(x:Str):x∈rise l ↔ x∈l:=by
 unfold rise
 rw[Kbh _ _ _ (by simp)]
 have:(l.mergeSort fun x y=>decide (x≤y)).take l.length=l.mergeSort fun x y=>decide (x≤y):=List.take_of_length_le (by simp)
 rw[this,List.mem_mergeSort]
theorem Kbo(k:Nat)(l:List Str)(hk:l.length+2≤k)(hl:l.length≤4294967296):Krc l=some (l.mergeSort fun x y=>decide (x≤y))∧Kwx k (l.mergeSort fun x y=>decide (x≤y))=some (rise l):=by
 refine⟨by unfold Krc;rw[Nat.ble_eq_true_of_le hl];rfl,?_⟩
 rw[Kbj k _ (by simpa using hk) (by simpa using hl)]
 unfold rise
 simp
end Go.Gk
