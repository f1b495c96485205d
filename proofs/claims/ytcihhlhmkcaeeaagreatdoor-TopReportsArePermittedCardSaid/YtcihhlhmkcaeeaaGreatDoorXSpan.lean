import Derived.Test.YtcihhlhmkcaeeaaGreatDoorGk65
import Derived.Test.YtcihhlhmkcaeeaaGreatDoorTLoop
import Derived.Test.YtcihhlhmkcaeeaaGreatDoorGk39
import Derived.Test.YtcihhlhmkcaeeaaGreatDoorXDraw
import Derived.KernelRfl
set_option linter.all false
set_option maxRecDepth 100000
namespace Go.Gk
section
variable{α σ:Type}{lt:α→α→Bool}{step:σ→α→σ}{I:α→Prop}{R:σ→Prop}
theorem Kug(hI:∀ s a,R s→I a→R (step s a))(hc:∀ s a b,R s→I a→I b→lt a b=false→lt b a=false→step (step s a) b=step (step s b) a)(a:α)(ha:I a) :
  ∀ (p q:List α) (s:σ),R s→(∀ x∈p,I x∧lt a x=false∧lt x a=false)→(p++a :: q).foldl step s=(a :: (p++q)).foldl step s
 | [],q,s,_,_=>rfl
 | x :: p,q,s,hs,hp=>by
  obtain⟨hx,h1,h2⟩:=hp x mCs
  have ih:=Kug hI hc a ha p q (step s x) (hI s x hs hx) fun y hy=>hp y (mCo _ hy)
  simp only[List.cons_append,List.foldl_cons] at ih ⊢
  rw[ih,hc s x a hs hx ha h2 h1]
theorem Kuh(irr:∀ x,lt x x=false)(ntr:∀ x y z,lt x y=false→lt y z=false→lt x z=false)(hI:∀ s a,R s→I a→R (step s a))(hc:∀ s a b,R s→I a→I b→lt a b=false→lt b a=false→step (step s a) b=step (step s b) a) :
  ∀ (y y':List α) (s:σ),R s→(∀ x∈y,I x)→y.Pairwise (fun a b=>lt b a=false)→y'.Pairwise (fun a b=>lt b a=false)→y'.Perm y→y.foldl step s=y'.foldl step s
 | [],y',s,_,_,_,_,hp=>by rw[List.Perm.eq_nil hp]
 | a :: t,y',s,hs,hi,h1,h2,hp=>by
  have hm:a∈y':=hp.symm.subset mCs
  obtain⟨p,q,rfl⟩:=List.append_of_mem hm
  obtain⟨a1,a2⟩:=List.pairwise_cons.1 h1
  obtain⟨p1,p2,p3⟩:=List.pairwise_append.1 h2
  have hpp:(p++q).Perm t:=by
   have:(a :: (p++q)).Perm (a :: t):=(List.perm_middle.symm).trans hp
   exact(List.perm_cons a).1 this
  have ht:∀ x∈p,I x∧lt a x=false∧lt x a=false:=fun x hx=>by
   have hxt:x∈t:=hpp.subset (List.mem_append_left _ hx)
   exact⟨hi x (mCo _ hxt),p3 x hx a mCs,a1 x hxt⟩
  rw[Kug hI hc a (hi a mCs) p q s hs ht]
  simp only[List.foldl_cons]
  have hsub:(p++q).Pairwise (fun a b=>lt b a=false):=h2.sublist (List.Sublist.append (List.Sublist.refl p) (List.sublist_cons_self a q))
  exact Kuh irr ntr hI hc t (p++q) (step s a) (hI s a hs (hi a mCs)) (fun x hx=>hi x (mCo _ hx)) a2 hsub hpp
end
end Go.Gk
namespace Go.Gk
def dd(s:List Str):Nat→List Str
 | 0=>[]
 | m+1=>if 0<m∧s[m]?=s[m - 1]? then dd s m else dd s m++(s[m]?).toList
theorem Kaa(s:List Str)(x:Str):∀ m,m≤s.length→(x∈dd s m ↔ x∈s.take m)
 | 0,_=>by simp[dd]
 | m+1,h=>by
  have ih:=Kaa s x m (by omega)
  have hm:=gGe (show m<s.length by omega)
  have e:dd s (m+1)=if 0<m∧s[m]?=s[m - 1]? then dd s m else dd s m++(s[m]?).toList:=rfl
  rw[List.take_add_one,List.mem_append,←ih,e]
  split
  ·rename_i hd
   refine⟨fun h=>.inl h,fun h=>h.elim id fun h=>?_⟩
   rw[hd.2] at h
   have h1:s[m - 1]?=some x:=by simpa using h
   rw[ih]
   refine mOg (i:=m - 1) ?_
   rw[List.getElem?_take_of_lt (by omega)]
   exact h1
  rw[List.mem_append]
def RS(x y:Str):Prop:=x≤y∧x≠y
theorem Kab(s:List Str)(hs:s.Pairwise (·≤·)):∀ m,m≤s.length→(dd s m).Pairwise RS
 | 0,_=>List.Pairwise.nil
 | m+1,h=>by
  have ih:=Kab s hs m (by omega)
  unfold dd
  split
  ·exact ih
  rename_i hd
  have hm:=gGe (show m<s.length by omega)
  rw[hm]
  refine List.pairwise_append.2 ⟨ih,List.pairwise_singleton ..,fun x hx y hy=>?_⟩
  simp only[Option.toList_some,List.mem_singleton] at hy
  subst hy
  have hx:=(Kaa s x m (by omega)).1 hx
  obtain⟨j,hj⟩:=List.getElem?_of_mem hx
  have hjm:j<m:=by have:=(gEs.1 hj).1;simp at this;omega
  rw[List.getElem?_take_of_lt hjm] at hj
  have hjl:j<s.length:=by omega
  have e1:s[j]=x:=by rw[gGe hjl] at hj;exact oSi hj
  have hpw:=List.pairwise_iff_getElem.1 hs
  have l1:s[j]≤s[m - 1]:=by
   by_cases e:j=m - 1
   ·subst e;exact List.le_refl _
   exact hpw j (m - 1) _ (by omega) (by omega)
  have l2:s[m - 1]≤s[m]:=hpw (m - 1) m _ (by omega) (by omega)
  have hne:s[m]≠s[m - 1]:=fun e=>hd ⟨by omega,by rw[hm,gGe (by omega),e]⟩
  rw[e1] at l1
  exact⟨List.le_trans l1 l2,fun e=>hne (List.le_antisymm (e▸l1) l2)⟩
theorem Kac(k:Nat)(s:List Str)(hk:s.length+2≤k)(hl:s.length≤4294967296):Lcj k s=some (dd s s.length):=by
 unfold Lcj
 by_cases h2:s.length<2
 ·rw[dT (by omega)]
  simp only[cond_true]
  match s,h2 with
  | [],_=>rfl
  | [x],_=>rfl
 rw[dF (by omega)]
 simp only[cond_false]
 refine Ktz (I:=fun i:Int=>1≤i∧i≤s.length∧dd s i.toNat=s.take i.toNat) (μ:=fun i=>(s.length - i.toNat)) (Q:=fun r=>r=.inl ()∧dd s s.length=s∨r=.inr (dd s s.length)) ?_ ⟨by omega,by omega,?_⟩ (by simp;omega) ?_
 ·rintro i ⟨h1,hi,hd⟩
  by_cases hlt:i<s.length
  ·rw[dT hlt]
   simp only[cond_true]
   obtain⟨j,rfl⟩:=Int.eq_ofNat_of_zero_le (show 0≤i by omega)
   simp only[Int.toNat_natCast] at hd ⊢
   have hj:j<s.length:=by omega
   have w1:wi ((j:Int) - 1)=((j - 1:Nat):Int):=by rw[Ktq (by omega) (by omega)];omega
   have w2:wi ((j:Int)+1)=((j+1:Nat):Int):=by rw[Ktq (by omega) (by omega)];omega
   rw[Kue (gGe hj),w1,Kue (gGe (show j - 1<s.length by omega))]
   simp only[bi_some]
   have hds:dd s (j+1)=if s[j]=s[j - 1] then s.take j else s.take (j+1):=by
    rw[dd,gGe hj,gGe (show j - 1<s.length by omega),hd,List.take_add_one,gGe hj]
    simp[show 0<j by omega]
   by_cases he:s[j]=s[j - 1]
   ·rw[if_pos he] at hds
    have:((s[j]:Str)==s[j - 1])=true:=by simpa using he
    rw[this]
    simp only[cond_true]
    have hz:subZ s (j:Int) (s.length:Int)=some (s.drop j):=by
     have e:=Kud (l:=s) (i:=j) (j:=s.length) (by omega) (by omega)
     rw[e]
     simp
    rw[hz]
    simp only[bi_some]
    refine .inl ⟨.inr (dd s s.length),?_,.inr rfl⟩
    refine Ktz (I:=fun t:List Str×Int×Int=>t.1.length=s.length∧1≤t.2.2∧j+t.2.2≤s.length∧0≤t.2.1∧t.2.1≤j+t.2.2 - 1∧dd s (j+t.2.2.toNat)=t.1.take t.2.1.toNat∧∀ q,j+t.2.2.toNat - 1≤q→t.1[q]?=s[q]?)
     (μ:=fun t=>s.length - (j+t.2.2.toNat)) (Q:=fun r=>r.1.length=s.length∧0≤r.2∧r.2≤s.length∧dd s s.length=r.1.take r.2.toNat) ?_ ⟨rfl,by simp,by simp;omega,by simp,by simp,by simpa using hds,fun _ _=>rfl⟩ (by simp;omega) ?_
    ·rintro⟨cur,w,q⟩ ⟨i1,i2,i3,i4,i5,i6,i7⟩
     simp only at i1 i2 i3 i4 i5 i6 i7 ⊢
     obtain⟨q,rfl⟩:=Int.eq_ofNat_of_zero_le (show 0≤q by omega)
     obtain⟨w,rfl⟩:=Int.eq_ofNat_of_zero_le i4
     simp only[Int.toNat_natCast] at *
     have hdl:(s.drop j).length=s.length - j:=by simp
     by_cases hq:(q:Int)<((s.drop j).length:Int)
     ·rw[dT hq]
      rw[hdl] at hq
      simp only[cond_true]
      have v1:wi ((q:Int) - 1)=((q - 1:Nat):Int):=by rw[Ktq (by omega) (by omega)];omega
      have v2:wi ((q:Int)+1)=((q+1:Nat):Int):=by rw[Ktq (by omega) (by omega)];omega
      have v3:wi ((w:Int)+1)=((w+1:Nat):Int):=by rw[Ktq (by omega) (by omega)];omega
      have g1:(s.drop j)[q]?=some s[j+q]:=by rw[List.getElem?_drop,gGe (by omega)]
      have g2:(s.drop j)[q - 1]?=some s[j+q - 1]:=by rw[List.getElem?_drop,gGe (by omega)];congr 2;omega
      have g3:cur[j+q]?=some s[j+q]:=by rw[i7 _ (by omega),gGe (by omega)]
      have g4:cur[j+(q - 1)]?=some s[j+q - 1]:=by rw[i7 _ (by omega),gGe (by omega)];congr 2;omega
      have g5:∃ u,cur[w]?=some u:=⟨_,gGe (by omega)⟩
      obtain⟨u,g5⟩:=g5
      rw[Kue g1,v1]
      simp only[bi_some,Int.toNat_natCast]
      rw[Kue g3,Kue g2,Kue g4,Kue g5]
      simp only[bi_some]
      have hdq:dd s (j+(q+1))=if s[j+q]=s[j+q - 1] then dd s (j+q) else dd s (j+q)++[s[j+q]]:=by
       rw[←Nat.add_assoc,dd,gGe (show j+q<s.length by omega),gGe (show j+q - 1<s.length by omega)]
       simp[show 0<j+q by omega]
      by_cases hne:s[j+q]=s[j+q - 1]
      ·have e:(!((s[j+q]:Str)==s[j+q - 1]))=false:=by simpa using hne
       rw[e,v2]
       rw[if_pos hne] at hdq
       refine .inr ⟨_,rfl,⟨i1,by simp;omega,by simp;omega,by simp,by simp;omega,by simpa [hdq] using i6,fun p hp=>i7 p (by simp at hp;omega)⟩,by simp;omega⟩
      have e:(!((s[j+q]:Str)==s[j+q - 1]))=true:=by simpa using hne
      rw[e,v2,v3]
      rw[if_neg hne] at hdq
      refine .inr ⟨_,rfl,⟨by simpa using i1,by simp;omega,by simp;omega,by simp;omega,by simp;omega,?_,fun p hp=>?_⟩,by simp;omega⟩
      ·simp only[Int.toNat_natCast]
       rw[hdq,i6,List.take_add_one,gSs (by omega),List.take_set_of_le (Nat.le_refl _)]
       rfl
      simp only[Int.toNat_natCast] at hp
      rw[gSn (by omega)]
      exact i7 p (by omega)
     rw[dF hq]
     rw[hdl] at hq
     refine .inl ⟨_,rfl,i1,by simp,by simp;omega,?_⟩
     simp only[Int.toNat_natCast]
     rw[←i6]
     congr 1
     omega
    rintro⟨cur,w⟩ ⟨r1,r2,r3,r4⟩
    simp only at r1 r2 r3 r4 ⊢
    obtain⟨w,rfl⟩:=Int.eq_ofNat_of_zero_le r2
    have e:=Kud (l:=cur) (i:=w) (j:=cur.length) (by omega) (by omega)
    rw[e]
    simp only[bi_some,Int.toNat_natCast] at r4 ⊢
    rw[r4]
   rw[if_neg he] at hds
   have:((s[j]:Str)==s[j - 1])=false:=by simpa using he
   rw[this,w2]
   exact .inr ⟨_,rfl,⟨by omega,by omega,by simpa using hds⟩,by simp;omega⟩
  rw[dF hlt]
  refine .inl ⟨_,rfl,.inl ⟨rfl,?_⟩⟩
  have:i.toNat=s.length:=by omega
  rw[this] at hd
  simpa using hd
 ·simp only[dd,Int.reduceToNat]
  simp[List.take_add_one]
 rintro r (⟨rfl,h⟩ | rfl)
 ·simp only[orI]
  rw[h]
 rfl
theorem Kad:∀ {a b:List Str},a.Pairwise RS→b.Pairwise RS→(∀ x,x∈a ↔ x∈b)→a=b
 | [],[],_,_,_=>rfl
 | [],y :: b,_,_,h=>by have:=(h y).2 (mCs ..);cases this
 | x :: a,[],_,_,h=>by have:=(h x).1 (mCs ..);cases this
 | x :: a,y :: b,ha,hb,h=>by
  obtain⟨a1,a2⟩:=List.pairwise_cons.1 ha
  obtain⟨b1,b2⟩:=List.pairwise_cons.1 hb
  have e:x=y:=by
   have h1:=(h x).1 (mCs ..)
   have h2:=(h y).2 (mCs ..)
   rcases List.mem_cons.1 h1 with h1 | h1
   ·exact h1
   rcases List.mem_cons.1 h2 with h2 | h2
   ·exact h2.symm
   exact List.le_antisymm (a1 y h2).1 (b1 x h1).1
  subst e
  congr 1
  refine Kad a2 b2 fun z=>?_
  have hz:=h z
  simp only[List.mem_cons] at hz
  constructor
  ·intro hm
   rcases hz.1 (.inr hm) with rfl | h'
   ·exact absurd rfl (a1 z hm).2
   exact h'
  intro hm
  rcases hz.2 (.inr hm) with rfl | h'
  ·exact absurd rfl (b1 z hm).2
  exact h'
theorem Kae(l:List Str):(l.mergeSort fun x y=>decide (x≤y)).Pairwise (·≤·):=by
 have:=List.pairwise_mergeSort (le:=fun x y:Str=>decide (x≤y)) (fun a b c h1 h2=>by simp only[decide_eq_true_eq] at *;exact List.le_trans h1 h2) (fun a b=>by simp only[Bool.or_eq_true,decide_eq_true_eq];exact List.le_total a b) l
 exact this.imp fun h=>by simpa using h
def rise(l:List Str):List Str:=dd (l.mergeSort fun x y=>decide (x≤y)) l.length
theorem Kaf(l:List Str):(rise l).Pairwise RS:=Kab _ (Kae l) _ (by simp)
theorem Kag(l:List Str)(x:Str):x∈rise l ↔ x∈l:=by
 unfold rise
 rw[Kaa _ _ _ (by simp)]
 have:(l.mergeSort fun x y=>decide (x≤y)).take l.length=l.mergeSort fun x y=>decide (x≤y):=List.take_of_length_le (by simp)
 rw[this,List.mem_mergeSort]
theorem Kah(k:Nat)(l:List Str)(hk:l.length+2≤k)(hl:l.length≤4294967296):Krq l=some (l.mergeSort fun x y=>decide (x≤y))∧Lcj k (l.mergeSort fun x y=>decide (x≤y))=some (rise l):=by
 refine⟨by unfold Krq;rw[Nat.ble_eq_true_of_le hl];rfl,?_⟩
 rw[Kac k _ (by simpa using hk) (by simpa using hl)]
 unfold rise
 simp
end Go.Gk
namespace Go.Gk
class KOrd (K:Type) [BEq K] [KLt K]:Prop where
 irr:∀ a:K,KLt.lt a a=false
 tr:∀ a b c:K,KLt.lt a b=true→KLt.lt b c=true→KLt.lt a c=true
 tri:∀ a b:K,KLt.lt a b=false→KLt.lt b a=false→a=b
theorem Krr:∀ a:List UInt8,Op.bytesLess a a=false
 | []=>rfl
 | x :: a=>by simp[Op.bytesLess,Krr a]
theorem Krs:∀ a b c:List UInt8,Op.bytesLess a b=true→Op.bytesLess b c=true→Op.bytesLess a c=true
 | _,[],_,h,_=>by cases ‹List UInt8›<;>simp[Op.bytesLess] at h
 | _,_ :: _,[],_,h=>by simp[Op.bytesLess] at h
 | [],_ :: _,_ :: _,_,_=>rfl
 | x :: a,y :: b,z :: c,h,k=>by
  simp only[Op.bytesLess,Bool.or_eq_true,decide_eq_true_eq,Bool.and_eq_true,beq_iff_eq] at h k ⊢
  rcases h with h | ⟨rfl,h⟩
  ·rcases k with k | ⟨rfl,k⟩
   ·exact .inl (UInt8.lt_trans h k)
   exact .inl h
  rcases k with k | ⟨rfl,k⟩
  ·exact .inl k
  exact .inr ⟨rfl,Krs a b c h k⟩
theorem Krt:∀ a b:List UInt8,Op.bytesLess a b=false→Op.bytesLess b a=false→a=b
 | [],[],_,_=>rfl
 | [],_ :: _,h,_=>by simp[Op.bytesLess] at h
 | _ :: _,[],_,h=>by simp[Op.bytesLess] at h
 | x :: a,y :: b,h,k=>by
  simp only[Op.bytesLess,Bool.or_eq_false_iff,decide_eq_false_iff_not,Bool.and_eq_false_iff,beq_eq_false_iff_ne,ne_eq] at h k
  have e:x=y:=by
   apply UInt8.toNat_inj.1
   have h1:=h.1;have k1:=k.1
   rw[UInt8.lt_iff_toNat_lt] at h1 k1
   omega
  subst e
  rw[Krt a b (by simpa using h.2) (by simpa using k.2)]
instance:KOrd (List UInt8):=⟨Krr,Krs,Krt⟩
instance:KOrd Int:=⟨fun a=>by simp[KLt.lt],fun a b c h k=>by simp only[KLt.lt,decide_eq_true_eq] at h k ⊢;omega,fun a b h k=>by simp only[KLt.lt,decide_eq_false_iff_not] at h k;omega⟩
section
variable{K V:Type}[BEq K][LawfulBEq K][KLt K][KOrd K]
def SM(m:List (K×V)):Prop:=m.Pairwise fun a b=>KLt.lt a.1 b.1=true
theorem Kru{a b:K}(h:KLt.lt a b=true):a≠b:=fun e=>by subst e;rw[KOrd.irr] at h;cases h
theorem SM.nil:SM ([]:List (K×V)):=List.Pairwise.nil
theorem Krv(k:K):mGet ([]:List (K×V)) k=none:=rfl
theorem Krw(e:K×V)(m:List (K×V))(k:K):mGet (e :: m) k=if k==e.1 then some e.2 else mGet m k:=by
 unfold mGet
 simp only[List.find?_cons]
 cases (k==e.1)<;>rfl
theorem Krx{m:List (K×V)}{k:K}:mGet m k=none ↔ ∀ e∈m,e.1≠k:=by
 induction m with
 | nil=>simp[Krv]
 | cons e m ih=>
  rw[Krw]
  by_cases h:k=e.1
  ·subst h;simp
  have:(k==e.1)=false:=by simpa using h
  rw[this]
  simp only[Bool.false_eq_true,if_false,ih,List.forall_mem_cons]
  exact⟨fun h1=>⟨Ne.symm h,h1⟩,fun h1=>h1.2⟩
theorem Kry{m:List (K×V)}{k:K}{v:V}(h:mGet m k=some v):(k,v)∈m:=by
 induction m with
 | nil=>cases h
 | cons e m ih=>
  rw[Krw] at h
  by_cases hk:k=e.1
  ·subst hk;simp at h;subst h;exact mCs ..
  have:(k==e.1)=false:=by simpa using hk
  rw[this] at h
  exact mCo _ (ih (by simpa using h))
theorem SM.get{m:List (K×V)}(h:SM m){k:K}{v:V}(hm:(k,v)∈m):mGet m k=some v:=by
 induction m with
 | nil=>cases hm
 | cons e m ih=>
  obtain⟨h1,h2⟩:=List.pairwise_cons.1 h
  rw[Krw]
  rcases List.mem_cons.1 hm with rfl | hm
  ·simp
  have:(k==e.1)=false:=by simpa using (Kru (h1 _ hm)).symm
  rw[this]
  simpa using ih h2 hm
theorem SM.mem_iff{m:List (K×V)}(h:SM m){k:K}{v:V}:(k,v)∈m ↔ mGet m k=some v:=⟨h.get,Kry⟩
theorem SM.ext:∀ {a b:List (K×V)},SM a→SM b→(∀ k,mGet a k=mGet b k)→a=b
 | [],[],_,_,_=>rfl
 | [],e :: b,_,_,h=>by have:=h e.1;rw[Krv,Krw] at this;simp at this
 | e :: a,[],_,_,h=>by have:=h e.1;rw[Krv,Krw] at this;simp at this
 | x :: a,y :: b,ha,hb,h=>by
  obtain⟨a1,a2⟩:=List.pairwise_cons.1 ha
  obtain⟨b1,b2⟩:=List.pairwise_cons.1 hb
  have hxy:x.1=y.1:=by
   cases h1:KLt.lt x.1 y.1 with
   | true=>
    have hx:=h x.1
    rw[Krw,Krw] at hx
    have hn:(x.1==y.1)=false:=by simpa using Kru h1
    rw[hn] at hx
    simp only[beq_self_eq_true,if_true,Bool.false_eq_true,if_false] at hx
    have:=b1 _ (Kry hx.symm)
    have:=KOrd.tr _ _ _ h1 this
    rw[KOrd.irr] at this;cases this
   | false=>
    cases h2:KLt.lt y.1 x.1 with
    | true=>
     have hy:=h y.1
     rw[Krw,Krw] at hy
     have hn:(y.1==x.1)=false:=by simpa using Kru h2
     rw[hn] at hy
     simp only[beq_self_eq_true,if_true,Bool.false_eq_true,if_false] at hy
     have:=a1 _ (Kry hy)
     have:=KOrd.tr _ _ _ h2 this
     rw[KOrd.irr] at this;cases this
    | false=>exact KOrd.tri _ _ h1 h2
  have hv:x.2=y.2:=by
   have:=h x.1
   rw[Krw,Krw,←hxy] at this
   simpa using this
  have he:x=y:=Prod.ext hxy hv
  subst he
  congr 1
  refine SM.ext a2 b2 fun k=>?_
  have hk:=h k
  rw[Krw,Krw] at hk
  by_cases e:k=x.1
  ·subst e
   rw[Krx.2 fun e he=>(Kru (a1 e he)).symm,Krx.2 fun e he=>(Kru (b1 e he)).symm]
  have:(k==x.1)=false:=by simpa using e
  simpa [this] using hk
theorem SM.ins{m:List (K×V)}(h:SM m){k:K}{v:V}(hn:∀ e∈m,e.1≠k):SM (mIns k v m):=by
 induction m with
 | nil=>exact List.pairwise_singleton ..
 | cons e m ih=>
  obtain⟨h1,h2⟩:=List.pairwise_cons.1 h
  simp only[mIns]
  cases hlt:KLt.lt k e.1 with
  | true=>
   refine List.pairwise_cons.2 ⟨fun x hx=>?_,h⟩
   rcases List.mem_cons.1 hx with rfl | hx
   ·exact hlt
   exact KOrd.tr _ _ _ hlt (h1 x hx)
  | false=>
   have hek:KLt.lt e.1 k=true:=by
    cases hh:KLt.lt e.1 k with
    | true=>rfl
    | false=>exact absurd (KOrd.tri _ _ hlt hh).symm (hn e (mCs ..))
   refine List.pairwise_cons.2 ⟨fun x hx=>?_,ih h2 fun x hx=>hn x (mCo _ hx)⟩
   have:=(Kjf k v m).mem_iff.1 hx
   simp only[List.mem_append,List.mem_singleton] at this
   rcases this with hx | rfl
   ·exact h1 x hx
   exact hek
theorem Krz{m:List (K×V)}{k:K}{v:V}(hn:∀ e∈m,e.1≠k)(k':K):mGet (mIns k v m) k'=if k'==k then some v else mGet m k':=by
 induction m with
 | nil=>simp[mIns,Krw]
 | cons e m ih=>
  simp only[mIns]
  cases hlt:KLt.lt k e.1 with
  | true=>simp[Krw]
  | false=>
   simp only[cond_false,Krw,ih fun x hx=>hn x (List.mem_cons_of_mem _ hx)]
   by_cases h1:k'=e.1
   ·subst h1
    have:(e.1==k)=false:=by simpa using hn e (mCs ..)
    simp[this]
   have:(k'==e.1)=false:=by simpa using h1
   simp[this]
theorem Ksa{m:List (K×V)}{k:K}{v:V}(hn:∀ e∈m,e.1≠k):mSet m k v=mIns k v m:=by
 unfold mSet
 have:m.findIdx? (fun e=>k==e.1)=none:=by
  rw[List.findIdx?_eq_none_iff]
  intro e he
  simpa using (hn e he).symm
 rw[this]
theorem Ksb{m:List (K×V)}{k:K}{v:V}{i:Nat}(h:m.findIdx? (fun e=>k==e.1)=some i):mSet m k v=m.set i (k,v):=by unfold mSet;rw[h]
theorem SM.set{m:List (K×V)}(h:SM m)(k:K)(v:V):SM (mSet m k v):=by
 cases hf:m.findIdx? (fun e=>k==e.1) with
 | none=>
  have hn:∀ e∈m,e.1≠k:=fun e he=>by
   have:=List.findIdx?_eq_none_iff.1 hf e he
   intro e2;subst e2;simp at this
  rw[Ksa hn]
  exact h.ins hn
 | some i=>
  rw[Ksb hf]
  obtain⟨hi,hk,_⟩:=lFi.1 hf
  have hk':k=m[i].1:=by simpa using hk
  unfold SM
  have e1:(m.set i (k,v)).map (·.1)=m.map (·.1):=by
   rw[List.map_set]
   apply List.ext_getElem?
   intro j
   by_cases hj:j=i
   ·subst hj;simp[hi,hk']
   rw[gSn (Ne.symm hj)]
  have h2:(m.map (·.1)).Pairwise fun a b=>KLt.lt a b=true:=List.pairwise_map.2 h
  rw[←e1] at h2
  exact List.pairwise_map.1 h2
theorem Ksc(m:List (K×V))(k:K)(v:V)(k':K):mGet (mSet m k v) k'=if k'==k then some v else mGet m k':=by
 cases hf:m.findIdx? (fun e=>k==e.1) with
 | none=>
  have hn:∀ e∈m,e.1≠k:=fun e he=>by
   have:=List.findIdx?_eq_none_iff.1 hf e he
   intro e2;subst e2;simp at this
  rw[Ksa hn,Krz hn]
 | some i=>
  rw[Ksb hf]
  induction m generalizing i with
  | nil=>simp at hf
  | cons e m ih=>
   rw[List.findIdx?_cons] at hf
   by_cases hk:k=e.1
   ·subst hk
    simp at hf
    subst hf
    simp only[List.set_cons_zero,Krw]
    by_cases h2:k'=e.1
    ·subst h2;simp
    have:(k'==e.1)=false:=by simpa using h2
    simp[this]
   have hk2:(k==e.1)=false:=by simpa using hk
   rw[hk2] at hf
   simp only[Bool.false_eq_true,if_false,Option.map_eq_some_iff] at hf
   obtain⟨j,hj,rfl⟩:=hf
   simp only[List.set_cons_succ,Krw,ih j hj]
   by_cases h2:k'=e.1
   ·subst h2
    have:(e.1==k)=false:=by simpa using Ne.symm hk
    simp[this]
   have:(k'==e.1)=false:=by simpa using h2
   simp[this]
theorem SM.of_perm_keys{m m':List (K×V)}(h:SM m)(hp:m'.Perm m):m'.Pairwise fun a b=>a.1≠b.1:=
 (List.Perm.pairwise_iff (R:=fun (a b:K×V)=>a.1≠b.1) (fun {a b} hab=>Ne.symm hab) hp).2 (List.Pairwise.imp (fun hab=>Kru hab) h)
theorem Ksd{α σ:Type}{f:α→σ→Option σ}{m:List α}{s r:σ}(I:List α→σ→Prop)(h0:I [] s)
  (hst:∀ (seen:List α) (x:α) (s:σ),(∃ rest,(seen++x :: rest).Perm m)→I seen s→∃ s',f x s=some s'∧I (seen++[x]) s')
  (hend:∀ (seen:List α) (s:σ),seen.Perm m→I seen s→s=r):rangeP f m s=some r:=by
 rw[Kjv]
 intro m' hm'
 have key:∀ (l seen:List α) (s:σ),(seen++l).Perm m→I seen s→∃ s',rangeL f l s=some s'∧I (seen++l) s':=by
  intro l
  induction l with
  | nil=>intro seen s hp hi;exact⟨s,rfl,by simpa using hi⟩
  | cons x l ih=>
   intro seen s hp hi
   obtain⟨s',e1,e2⟩:=hst seen x s ⟨l,hp⟩ hi
   obtain⟨s2,e3,e4⟩:=ih (seen++[x]) s' (by simpa using hp) e2
   refine⟨s2,?_,by simpa using e4⟩
   simp only[rangeL,e1]
   exact e3
 obtain⟨s',e1,e2⟩:=key m' [] s (by simpa using hm') h0
 rw[e1,hend m' s' hm' (by simpa using e2)]
theorem Kse{V2:Type}{m:List (K×V)}{s:List (K×V2)}{f:K×V→List (K×V2)→Option (List (K×V2))}(hm:SM m)(hs:SM s)(g:K→V→Option V2)
  (hf:∀ x s,x∈m→f x s=some (match g x.1 x.2 with | some v=>mSet s x.1 v | none=>s)) :
  ∃ r,rangeP f m s=some r∧SM r∧∀ k,mGet r k=match (mGet m k).bind (g k) with | some v=>some v | none=>mGet s k:=by
 let put:List (K×V2)→K×V→List (K×V2):=fun s x=>match g x.1 x.2 with | some v=>mSet s x.1 v | none=>s
 have hput:∀ s x,SM s→SM (put s x):=fun s x h=>by
  simp only[put]
  cases g x.1 x.2 with
  | none=>exact h
  | some v=>exact h.set _ _
 have hfold:∀ (l:List (K×V)) (s:List (K×V2)),SM s→SM (l.foldl put s):=by
  intro l
  induction l with
  | nil=>intro s h;exact h
  | cons x l ih=>intro s h;exact ih _ (hput s x h)
 have hget:∀ (l:List (K×V)) (s:List (K×V2)),(l.Pairwise fun a b=>a.1≠b.1)→∀ k,mGet (l.foldl put s) k=match (mGet l k).bind (g k) with | some v=>some v | none=>mGet s k:=by
  intro l
  induction l with
  | nil=>intro s _ k;rfl
  | cons x l ih=>
   intro s hd k
   obtain⟨d1,d2⟩:=List.pairwise_cons.1 hd
   rw[List.foldl_cons,ih _ d2 k,Krw]
   by_cases hk:k=x.1
   ·subst hk
    have hn:mGet l x.1=none:=Krx.2 fun e he=>(d1 e he).symm
    rw[hn]
    simp only[Option.bind_none,beq_self_eq_true,if_true,Option.bind_some,put]
    cases g x.1 x.2 with
    | none=>rfl
    | some v=>simp[Ksc]
   ·have hk2:(k==x.1)=false:=by simpa using hk
    simp only[hk2,Bool.false_eq_true,if_false]
    cases (mGet l k).bind (g k) with
    | some v=>rfl
    | none=>
     simp only[put]
     cases g x.1 x.2 with
     | none=>rfl
     | some v=>simp[Ksc,hk2]
 refine⟨m.foldl put s,?_,hfold m s hs,hget m s (hm.of_perm_keys (.refl _))⟩
 refine Ksd (fun seen s'=>s'=seen.foldl put s) rfl (fun seen x s' hx hi=>?_) (fun seen s' hp hi=>?_)
 ·obtain⟨rest,hr⟩:=hx
  exact⟨_,hf x s' (hr.mem_iff.1 (by simp)),by rw[List.foldl_append,hi];rfl⟩
 ·subst hi
  refine SM.ext (hfold _ _ hs) (hfold _ _ hs) fun k=>?_
  rw[hget seen s (hm.of_perm_keys hp),hget m s (hm.of_perm_keys (.refl _))]
  have:mGet seen k=mGet m k:=by
   cases h:mGet m k with
   | none=>exact Krx.2 fun e he=>Krx.1 h e (hp.mem_iff.1 he)
   | some v=>
    have h1:=hp.mem_iff.2 (Kry h)
    cases h2:mGet seen k with
    | none=>exact absurd rfl (Krx.1 h2 _ h1)
    | some u=>have:=hm.get (hp.mem_iff.1 (Kry h2));rw[h] at this;exact this.symm
  rw[this]
end
end Go.Gk
namespace Go.Gk
def alt(a b:Kxe):Prop:=sx a<sx b∨(sx a=sx b∧(a.Hi<b.Hi∨(a.Hi=b.Hi∧a.Lo<b.Lo)))
theorem Loj(x y:Int):0<cmpZ x y ↔ y<x:=by
 unfold cmpZ
 by_cases h:x<y
 ·simp[h]<;>omega
 by_cases h2:x>y
 ·simp[h,h2]
 simp[h,h2]<;>omega
theorem Lok(a b:Kxe):0<scZ a b ↔ scZ b a<0:=by
 unfold scZ
 have e1:=Kwz b.Hi a.Hi
 have e2:=Loj a.Hi b.Hi
 have e3:=Kwz b.Lo a.Lo
 have e4:=Loj a.Lo b.Lo
 have e5:=Kxa a.Hi b.Hi
 have e6:=Kxa b.Hi a.Hi
 cases a.Six<;>cases b.Six
 case false.true=>simp
 case true.false=>simp
 all_goals
  simp only[BEq.rfl,Bool.not_true,cond_false]
  by_cases h:a.Hi=b.Hi
  ·have h1:(cmpZ a.Hi b.Hi != 0)=false:=by simpa using e5.2 h
   have h2:(cmpZ b.Hi a.Hi != 0)=false:=by simpa using e6.2 h.symm
   rw[h1,h2]
   simp only[cond_false]
   rw[e4,e3]
  have h1:(cmpZ a.Hi b.Hi != 0)=true:=by simpa using fun e=>h (e5.1 e)
  have h2:(cmpZ b.Hi a.Hi != 0)=true:=by simpa using fun e=>h (e6.1 e).symm
  rw[h1,h2]
  simp only[cond_true]
  rw[e2,e1]
theorem Lol(a b:Kxe):scZ a b<0 ↔ alt a b:=Kxb a b
theorem Lom(a b:Kxe):0<scZ a b ↔ alt b a:=(Lok a b).trans (Lol b a)
theorem Lon(a b:Kxe):scZ a b≤0 ↔ ¬ alt b a:=by rw[←Lom a b];omega
theorem Loo(a:Kxe):¬ alt a a:=by unfold alt;omega
theorem Lop{a b c:Kxe}(h1:alt a b)(h2:alt b c):alt a c:=by unfold alt at *;omega
theorem Loq{a b c:Kxe}(h1:¬ alt a b)(h2:¬ alt b c):¬ alt a c:=by unfold alt at *;omega
theorem Lor{a b:Kxe}(h1:alt a b):¬ alt b a:=by unfold alt at *;omega
theorem Los{a b c:Kxe}(h1:¬ alt b a)(h2:alt b c):alt a c:=by unfold alt at *;omega
theorem Lot{a b:Kxe}(h:sx a=sx b):a.Six=b.Six:=by unfold sx at h;cases ha:a.Six<;>cases hb:b.Six<;>rw[ha,hb] at h<;>first | rfl | cases h
theorem Lou{a b:Kxe}(h1:¬ alt a b)(h2:¬ alt b a):a=b:=by
 unfold alt at *
 have e1:sx a=sx b:=by omega
 have e2:a.Hi=b.Hi:=by omega
 have e3:a.Lo=b.Lo:=by omega
 have e4:=Lot e1
 cases a;cases b
 simp only at e2 e3 e4
 subst e2;subst e3;subst e4;rfl
def fl(a:Kxe):Kxe:=⟨a.Six,bitsV .or .u64 a.Hi (bif a.Six then 18446744073709551615 else 0),bitsV .or .u64 a.Lo (bif a.Six then 18446744073709551615 else 4294967295)⟩
theorem Lqz(a:Kxe):Lby a 0=some (fl a):=by
 cases a with
 | mk s h l=>cases s<;>rfl
def nxE(a:Kxe):Bool:=(((a.Six:Bool)==(fl a).Six)&&(((a.Hi:Int)==(fl a).Hi)&&(((a.Lo:Int)==(fl a).Lo)&&true)))
def nx(a:Kxe):Kxe:=⟨a.Six,IntKind.u64.wrap (a.Hi+(a.Lo+1+0) / 18446744073709551616),(a.Lo+1+0) % 18446744073709551616⟩
theorem Lov{a:Kxe}(h:aOk a):Lbz a=some (bif nxE a then(a,false) else(nx a,true)):=by
 unfold Lbz
 rw[Lqz,bi_some]
 show(bif nxE a then _ else _)=_
 cases hx:nxE a
 ·simp only[cond_false]
  have:Kro a.Lo 1 0=some ((a.Lo+1+0) % 18446744073709551616,(a.Lo+1+0) / 18446744073709551616):=by
   unfold Kro
   rw[decide_eq_true h.2.2.1];rfl
  rw[this,bi_some];rfl
 rfl
theorem Low{a:Kxe}(h:aOk a)(he:nxE a=false):alt a (nx a):=by
 obtain⟨h1,h2,h3,h4⟩:=h
 have hw:IntKind.u64.wrap (a.Hi+(a.Lo+1+0) / 18446744073709551616)=(a.Hi+(a.Lo+1+0) / 18446744073709551616) % 18446744073709551616:=rfl
 have hm:¬ (a.Hi=18446744073709551615∧a.Lo=18446744073709551615):=by
  rintro⟨e1,e2⟩
  cases a with
  | mk s hi lo=>
   simp only at e1 e2
   subst e1;subst e2
   cases s<;>exact absurd he (by decide)
 refine .inr ⟨rfl,?_⟩
 show a.Hi<IntKind.u64.wrap (a.Hi+(a.Lo+1+0) / 18446744073709551616)∨(a.Hi=IntKind.u64.wrap (a.Hi+(a.Lo+1+0) / 18446744073709551616)∧a.Lo<(a.Lo+1+0) % 18446744073709551616)
 rw[hw]
 omega
def rOk(x:Kxt):Prop:=aOk x.First∧aOk x.Last∧¬ alt x.Last x.First
def spOk(l:List Kxt):Prop:=∀ x∈l,rOk x
def spN(n:Nat)(l:List Kxt):Prop:=spOk l∧l.length≤n
theorem spOk.app{a b:List Kxt}(ha:spOk a)(hb:spOk b):spOk (a++b):=fun x hx=>(List.mem_append.1 hx).elim (ha x) (hb x)
theorem spOk.one{x:Kxt}(h:rOk x):spOk [x]:=fun y hy=>by rw[List.mem_singleton.1 hy];exact h
def tch(a b:Kxt):Bool:=bif !((a.First.Six:Bool)==b.First.Six) then false else bif nxE a.Last then true else decide (scZ b.First (nx a.Last)≤0)
theorem Lox(a b:Kxt)(h:aOk a.Last):Lca a b=some (tch a b):=by
 unfold Lca tch
 rw[Lov h]
 cases (!((a.First.Six:Bool)==b.First.Six))
 ·simp only[cond_false,bi_some]
  cases nxE a.Last
  ·simp only[cond_false,Bool.not_true,Kva,bi_some]
  rfl
 rfl
theorem Loy{a b:Kxt}(h:aOk a.Last)(h6:a.First.Six=b.First.Six)(hb:¬ alt a.Last b.First):tch a b=true:=by
 unfold tch
 rw[h6]
 simp only[BEq.rfl,Bool.not_true,cond_false]
 cases hx:nxE a.Last
 ·simp only[cond_false]
  have g:=Low h hx
  exact decide_eq_true ((Lon _ _).2 (Lor (Los hb g)))
 rfl
def mx(a b:Kxe):Kxe:=bif decide (scZ a b<0) then b else a
theorem Loz(a b:Kxe):(mx a b=b∧alt a b)∨(mx a b=a∧¬ alt a b):=by
 unfold mx
 by_cases h:alt a b
 ·rw[decide_eq_true ((Lol a b).2 h)];exact .inl ⟨rfl,h⟩
 rw[decide_eq_false (fun e=>h ((Lol a b).1 e))];exact .inr ⟨rfl,h⟩
theorem Lpa(a b:Kxe):¬ alt (mx a b) a:=by
 rcases Loz a b with⟨e,h⟩ | ⟨e,h⟩<;>rw[e]
 ·exact Lor h
 exact Loo a
theorem Lpb(a b:Kxe):¬ alt (mx a b) b:=by
 rcases Loz a b with⟨e,h⟩ | ⟨e,h⟩<;>rw[e]
 ·exact Loo b
 exact h
theorem Lpc{a b:Kxe}(h1:aOk a)(h2:aOk b):aOk (mx a b):=by
 rcases Loz a b with⟨e,h⟩ | ⟨e,h⟩<;>rw[e]<;>assumption
theorem Lpd{a b c:Kxe}(h1:¬ alt c a)(h2:¬ alt c b):¬ alt c (mx a b):=by
 rcases Loz a b with⟨e,h⟩ | ⟨e,h⟩<;>rw[e]<;>assumption
theorem Lpe{a b x:Kxe}(h1:¬ alt x a)(h2:¬ alt x b)(h3:x=a∨x=b):x=mx a b:=by
 rcases h3 with rfl | rfl
 ·refine Lou ?_ (Lpa x b)
  rcases Loz x b with⟨e,h⟩ | ⟨e,h⟩
  ·exact absurd h h2
  rw[e];exact Loo x
 refine Lou ?_ (Lpb a x)
 rcases Loz a x with⟨e,h⟩ | ⟨e,h⟩
 ·rw[e];exact Loo x
 rw[e];exact h1
theorem Lpf(o a b:Kxe):mx (mx o a) b=mx (mx o b) a:=by
 refine Lpe ?_ ?_ ?_
 ·refine Lpd ?_ ?_ |> fun g=>g
  ·exact fun g=>Lpa o a (by rcases Loz (mx o a) b with⟨e,h⟩ | ⟨e,h⟩<;>rw[e] at g<;>first | exact Lop h g | exact g)
  exact Lpb _ _
 ·exact fun g=>Lpb o a (by rcases Loz (mx o a) b with⟨e,h⟩ | ⟨e,h⟩<;>rw[e] at g<;>first | exact Lop h g | exact g)
 rcases Loz (mx o a) b with⟨e,h⟩ | ⟨e,h⟩
 ·left
  rw[e]
  refine Lpe ?_ (Loo b) (.inr rfl)
  rcases Loz o a with⟨e1,h1⟩ | ⟨e1,h1⟩
  ·rw[e1] at h;exact Lor (Lop h1 h)
  rw[e1] at h;exact Lor h
 rw[e]
 rcases Loz o a with⟨e1,h1⟩ | ⟨e1,h1⟩
 ·right;exact e1
 left
 rw[e1] at h ⊢
 exact Lpe (Loo o) h (.inl rfl)
def jn(s:List Kxt)(x:Kxt):List Kxt:=match s.getLast? with
 | none=>[x]
 | some o=>bif tch o x then s.dropLast++[⟨o.First,mx o.Last x.Last⟩] else s++[x]
theorem Lpg(x:Kxt):jn [] x=[x]:=rfl
theorem Lph(p:List Kxt)(o x:Kxt):jn (p++[o]) x=bif tch o x then p++[⟨o.First,mx o.Last x.Last⟩] else p++[o]++[x]:=by
 unfold jn
 rw[List.getLast?_concat,List.dropLast_concat]
theorem Lpi{α:Type}(l:List α):l=[]∨∃ p o,l=p++[o]:=by
 rcases List.eq_nil_or_concat l with h | ⟨p,o,h⟩
 ·exact .inl h
 exact .inr ⟨p,o,by simpa using h⟩
theorem Lpj{s:List Kxt}{x:Kxt}(hs:spOk s)(hx:rOk x):spOk (jn s x)∧(jn s x).length≤s.length+1:=by
 rcases Lpi s with rfl | ⟨p,o,rfl⟩
 ·exact⟨spOk.one hx,by simp[jn]⟩
 rw[Lph]
 have ho:=hs o (by simp)
 have hp:spOk p:=fun y hy=>hs y (by simp[hy])
 cases tch o x
 ·exact⟨hs.app (spOk.one hx),by simp⟩
 refine⟨hp.app (spOk.one ⟨ho.1,Lpc ho.2.1 hx.2.1,fun g=>ho.2.2 ?_⟩),by simp⟩
 rcases Loz o.Last x.Last with⟨e,h⟩ | ⟨e,h⟩
 ·simp only[e] at g;exact Lop h g
 simp only[e] at g;exact g
theorem Lpk(s:List Kxt)(a b:Kxt)(hs:spOk s)(ha:rOk a)(hb:rOk b)(hf:a.First=b.First):jn (jn s a) b=jn (jn s b) a:=by
 obtain⟨a1,a2,a3⟩:=ha
 obtain⟨b1,b2,b3⟩:=hb
 have t1:∀ x:Kxt,aOk x.Last→x.First.Six=a.First.Six→¬ alt x.Last a.First→tch x b=true:=fun x h1 h2 h3=>Loy h1 (by rw[h2,hf]) (by rw[←hf];exact h3)
 have t2:∀ x:Kxt,aOk x.Last→x.First.Six=a.First.Six→¬ alt x.Last a.First→tch x a=true:=fun x h1 h2 h3=>Loy h1 h2 h3
 have b3':¬ alt b.Last a.First:=by rw[hf];exact b3
 have e2:mx a.Last b.Last=mx b.Last a.Last:=by
  have:=Lpf a.Last a.Last b.Last
  rcases Loz a.Last b.Last with⟨e,h⟩ | ⟨e,h⟩<;>rcases Loz b.Last a.Last with⟨g,k⟩ | ⟨g,k⟩<;>rw[e,g]
  ·exact absurd k (Lor h)
  exact Lou h k
 rcases Lpi s with rfl | ⟨p,o,rfl⟩
 ·rw[Lpg,Lpg,show[a]=[]++[a] from rfl,show[b]=[]++[b] from rfl,Lph,Lph,t1 a a2 rfl a3,t2 b b2 (by rw[hf]) b3']
  simp only[cond_true]
  rw[hf,e2]
 rw[Lph,Lph]
 have ho:=hs o (by simp)
 have et:tch o a=tch o b:=by unfold tch;rw[hf]
 rw[et]
 cases ht:tch o b
 ·simp only[cond_false]
  rw[Lph,Lph,t1 a a2 rfl a3,t2 b b2 (by rw[hf]) b3']
  simp only[cond_true]
  rw[hf,e2]
 simp only[cond_true]
 have h6:o.First.Six=b.First.Six:=by
  unfold tch at ht
  cases h:((o.First.Six:Bool)==b.First.Six)
  ·rw[h] at ht;cases ht
  simpa using h
 rw[Lph,Lph,t1 ⟨o.First,mx o.Last a.Last⟩ (Lpc ho.2.1 a2) (by rw[hf];exact h6) (Loq (Lpb o.Last a.Last) a3),t2 ⟨o.First,mx o.Last b.Last⟩ (Lpc ho.2.1 b2) (by rw[hf];exact h6) (Loq (Lpb o.Last b.Last) b3')]
 simp only[cond_true]
 rw[Lpf]
theorem Lpl:∀ (l s:List Kxt),spOk s→spOk l→spOk (l.foldl jn s)∧(l.foldl jn s).length≤s.length+l.length
 | [],s,hs,_=>⟨hs,Nat.le_refl _⟩
 | x :: l,s,hs,hl=>by
  have h1:=Lpj hs (hl x List.mem_cons_self)
  have h2:=Lpl l (jn s x) h1.1 fun y hy=>hl y (List.mem_cons_of_mem _ hy)
  exact⟨h2.1,by rw[List.foldl_cons,List.length_cons];omega⟩
theorem lt_j(x y:Kxt):ltO (fun a b=>Lbx a b) x y=decide (scZ x.First y.First<0):=by
 unfold ltO Lbx
 simp only[Kva,bi_some,Option.getD_some]
theorem Lpm:CmpT (fun a b=>Lbx a b):=by
 refine⟨fun x y=>⟨scZ x.First y.First,by simp only[Lbx,Kva,bi_some]⟩,⟨fun x=>?_,fun x y z h1 h2=>?_,fun x y z h1 h2=>?_⟩⟩
 ·rw[lt_j];exact decide_eq_false fun e=>Loo _ ((Lol _ _).1 e)
 ·rw[lt_j,decide_eq_true_eq,Lol] at h1 h2 ⊢;exact Lop h1 h2
 rw[lt_j,decide_eq_false_iff_not,Lol] at h1 h2 ⊢;exact Loq h1 h2
theorem Lra(y:List Kxt)(hy:spOk y)(hl:y.length≤1000) :
  rangeG (σ:=List Kxt) (fun i9 s10=>bi (getZ y (i9:Int)) fun x21=>bi (bif decide ((wi ((s10.length:Int) - 1):Int)≥0) then(bi (getZ s10 (wi ((s10.length:Int) - 1))) fun x27=>bi (Lca x27 x21) fun y30=>some y30) else(some false)) fun q24=>bif q24 then(bi (getZ s10 (wi ((s10.length:Int) - 1))) fun x34=>bi (Lbq x34.Last x21.Last) fun y37=>bi (bif decide ((y37:Int)<0) then(bi (getZ s10 (wi ((s10.length:Int) - 1))) fun x42=>some (s10.set ((wi ((s10.length:Int) - 1)).toNat) (⟨x42.First,x21.Last⟩:Kxt))) else(some s10)) fun q39=>some q39) else(bi (apd s10 [x21]) fun y47=>some y47)) (y.length:Int) ([]:List Kxt)=some (y.foldl jn []):=by
 obtain⟨r,h1,h2⟩:=Kar (f:=fun i9 s10=>bi (getZ y (i9:Int)) fun x21=>bi (bif decide ((wi ((s10.length:Int) - 1):Int)≥0) then(bi (getZ s10 (wi ((s10.length:Int) - 1))) fun x27=>bi (Lca x27 x21) fun y30=>some y30) else(some false)) fun q24=>bif q24 then(bi (getZ s10 (wi ((s10.length:Int) - 1))) fun x34=>bi (Lbq x34.Last x21.Last) fun y37=>bi (bif decide ((y37:Int)<0) then(bi (getZ s10 (wi ((s10.length:Int) - 1))) fun x42=>some (s10.set ((wi ((s10.length:Int) - 1)).toNat) (⟨x42.First,x21.Last⟩:Kxt))) else(some s10)) fun q39=>some q39) else(bi (apd s10 [x21]) fun y47=>some y47)) (n:=(y.length:Int)) (s:=([]:List Kxt)) (fun i s=>s=(y.take i).foldl jn []∧spOk s∧s.length≤i) ⟨rfl,(fun x hx=>by cases hx),Nat.le_refl _⟩ (by
  rintro i s hi ⟨g1,g2,g3⟩
  have hi:i<y.length:=by omega
  have hx:=List.getElem?_eq_getElem hi
  have hm:=hy _ (List.getElem_mem hi)
  have hj:=Lpj g2 hm
  refine Kam (Kue hx) ?_
  have fin:jn s y[i]=(y.take (i+1)).foldl jn []∧spOk (jn s y[i])∧(jn s y[i]).length≤i+1:=⟨by rw[List.take_add_one,hx,List.foldl_append,←g1];rfl,hj.1,by omega⟩
  rcases Lpi s with rfl | ⟨p,o,rfl⟩
  ·refine Kam (r:=false) rfl ?_
   simp only[cond_false]
   exact Kav (by simp) (Kak fin)
  ·simp only[List.length_append,List.length_singleton] at g3
   have hw:wi (((p++[o]).length:Int) - 1)=((p.length:Nat):Int):=by
    rw[List.length_append,List.length_singleton,Ktq (by omega) (by omega)];omega
   have hg:getZ (p++[o]) (wi (((p++[o]).length:Int) - 1))=some o:=by rw[hw];exact Kue (by simp)
   have ho:=g2 o (by simp)
   rw[Lph] at fin
   simp only[hg,bi_some]
   rw[hw,decide_eq_true (show((p.length:Nat):Int)≥0 by omega),Lox _ _ ho.2.1]
   simp only[cond_true,bi_some,Kva,Int.toNat_natCast]
   cases ht:tch o y[i]
   ·rw[ht] at fin
    simp only[cond_false] at fin ⊢
    exact Kav (by simp;omega) (Kak fin)
   ·rw[ht] at fin
    simp only[cond_true] at fin ⊢
    cases hd:decide (scZ o.Last y[i].Last<0)
    ·simp only[cond_false,bi_some]
     have:mx o.Last y[i].Last=o.Last:=by unfold mx;rw[hd];rfl
     rw[this] at fin
     exact Kak fin
    ·simp only[cond_true,bi_some]
     have:mx o.Last y[i].Last=y[i].Last:=by unfold mx;rw[hd];rfl
     rw[this] at fin
     refine Kak ?_
     rw[show(p++[o]).set p.length (⟨o.First,y[i].Last⟩:Kxt)=p++[⟨o.First,y[i].Last⟩] by simp]
     exact fin)
 rw[h1,h2.1]
 simp
theorem Lpn(l:List Kxt)(h:spOk l)(hl:l.length≤1000):Ok (Lcb l) (spN l.length):=by
 unfold Lcb Lbw
 refine Kam (r:=l) (by rw[Ktw (by simp;omega)];rfl) ?_
 have hsp:∀ r:List Kxt,r.Perm l→spOk r:=fun r hr x hx=>h x (hr.mem_iff.1 hx)
 have hms:=Knk Lpm l
 have hv:=Lpl (l.mergeSort fun x y=>!ltO (fun a b=>Lbx a b) y x) [] (fun x hx=>by cases hx) (hsp _ hms.perm)
 refine⟨(l.mergeSort fun x y=>!ltO (fun a b=>Lbx a b) y x).foldl jn [],Knm Lpm (by omega) fun r hr=>?_,hv.1,by have:=hv.2;simpa using this⟩
 have hrl:=hr.length
 rw[decide_eq_true hrl]
 show bi (gd (decide ((r.length:Int)≤9223372036854775807)) _) _=_
 rw[decide_eq_true (show(r.length:Int)≤9223372036854775807 by omega)]
 show bi (rangeG _ _ _) _=_
 rw[Lra r (hsp r hr.perm) (by omega),bi_some]
 refine congrArg some (Kuh (lt:=fun x y=>ltO (fun a b=>Lbx a b) x y) (I:=rOk) (R:=spOk) Lpm.swo.irrefl Lpm.swo.ntrans (fun s a hs ha=>(Lpj hs ha).1) (fun s a b hs ha hb h1 h2=>?_) r _ [] (fun x hx=>by cases hx) (hsp r hr.perm) hr.srt hms.srt (hms.perm.trans hr.perm.symm))
 refine Lpk s a b hs ha hb (Lou ?_ ?_)
 ·simp only[lt_j,decide_eq_false_iff_not,Lol] at h1;exact h1
 simp only[lt_j,decide_eq_false_iff_not,Lol] at h2;exact h2
theorem Lpo(l:List Kxe)(h:∀ a∈l,aOk a)(hl:l.length≤1000):Ok (Lcc l) (spN l.length):=by
 unfold Lcc
 refine Kal (P:=spN l.length) (Kaq (fun i s=>spN i s) ⟨(fun x hx=>by cases hx),Nat.le_refl _⟩ ?_) fun q hq=>Kal (Lpn q hq.1 (by have:=hq.2;omega)) fun r hr=>Kak ⟨hr.1,Nat.le_trans hr.2 hq.2⟩
 rintro i x s hx ⟨g1,g2⟩
 have hi:=(List.getElem?_eq_some_iff.1 hx).1
 have ha:=h x (List.mem_of_getElem? hx)
 exact Kav (by simp;omega) (Kak ⟨g1.app (spOk.one ⟨ha,ha,Loo x⟩),by simp;omega⟩)
theorem Lpp(a b:List Kxt)(ha:spOk a)(hb:spOk b)(hl:a.length+b.length≤1000):Ok (Lcz a b) (spN (a.length+b.length)):=by
 unfold Lcz Lbw
 refine Kam (r:=a) (by rw[Ktw (by simp;omega)];rfl) (Kav (by omega) ?_)
 refine Kal (Lpn (a++b) (ha.app hb) (by simp;omega)) fun r hr=>Kak ⟨hr.1,by have:=hr.2;simpa using this⟩
theorem Lpq:Ok Lcf (spN 2):=by
 refine⟨[⟨⟨false,0,0⟩,⟨false,0,4294967295⟩⟩,⟨⟨true,0,0⟩,⟨true,18446744073709551615,18446744073709551615⟩⟩],by rfl,fun x hx=>?_,by simp⟩
 simp only[List.mem_cons,List.not_mem_nil,or_false] at hx
 rcases hx with rfl | rfl<;>(unfold rOk aOk alt sx;decide)
def hostT:List Kxf:=[⟨⟨false,0,167772160⟩,8⟩,⟨⟨false,0,167772160⟩,16⟩,⟨⟨false,0,167772160⟩,31⟩,⟨⟨true,18230571291595767808,0⟩,8⟩,⟨⟨true,18230571291595767808,0⟩,64⟩,⟨⟨true,18230571291595767808,0⟩,127⟩]
theorem Lpr:∀ p∈netT++hostT,∃ q,Lcs p=some q∧rOk ⟨p.Addr,q⟩:=by
 intro p hp
 simp only[netT,hostT,zP,List.cons_append,List.nil_append,List.mem_cons,List.not_mem_nil,or_false] at hp
 rcases hp with rfl | rfl | rfl | rfl | rfl | rfl | rfl | rfl | rfl | rfl | rfl | rfl | rfl<;>exact⟨_,by rfl,by unfold rOk aOk alt sx;decide⟩
theorem of_n(p:Kxf)(hp:p∈netT++hostT):Ok (Lct [p]) (spN 1):=by
 obtain⟨q,h1,h2⟩:=Lpr p hp
 unfold Lct
 refine Kam (r:=[⟨p.Addr,q⟩]) ?_ (Kal (Lpn _ (spOk.one h2) (by simp)) fun r hr=>Kak ⟨hr.1,by simpa using hr.2⟩)
 simp only[rangeF,h1,bi_some]
 rw[Ktw (by simp)];rfl
theorem Lps(a b:List Kxt)(ha:spOk a)(hb:spOk b)(hl:a.length+b.length≤300):Ok (Ldh 400 a b) (spN (a.length+b.length)):=by
 unfold Ldh Ldf Ldg
 refine Kal (P:=spN (a.length+b.length)) (Kat (fun s:List Kxt×Int×Int=>spOk s.1∧0≤s.2.1∧s.2.1≤a.length∧0≤s.2.2∧s.2.2≤b.length∧(s.1.length:Int)≤s.2.1+s.2.2) (fun s=>((a.length:Int) - s.2.1).toNat+((b.length:Int) - s.2.2).toNat) _ ⟨(fun x hx=>by cases hx),by simp,by simp,by simp,by simp,by simp⟩ (by simp;omega) fun s hs=>?_) fun q hq=>Kal (Lpn q hq.1 (by have:=hq.2;omega)) fun r hr=>Kak ⟨hr.1,Nat.le_trans hr.2 hq.2⟩
 obtain⟨s0,i,j⟩:=s
 obtain⟨g1,g2,g3,g4,g5,g6⟩:=hs
 simp only at g1 g2 g3 g4 g5 g6 ⊢
 refine Kao (fun g=>?_) fun _=>Kak ⟨g1,by omega⟩
 rw[Bool.and_eq_true] at g
 have gi:=of_decide_eq_true g.1
 have gj:=of_decide_eq_true g.2
 obtain⟨i,rfl⟩:=Int.eq_ofNat_of_zero_le g2
 obtain⟨j,rfl⟩:=Int.eq_ofNat_of_zero_le g4
 have hi:i<a.length:=by omega
 have hj:j<b.length:=by omega
 have ei:=Kue (List.getElem?_eq_getElem hi)
 have ej:=Kue (List.getElem?_eq_getElem hj)
 simp only[ei,ej,bi_some,Kva]
 have oa:=ha _ (List.getElem_mem hi)
 have ob:=hb _ (List.getElem_mem hj)
 have w1:wi ((i:Int)+1)=((i+1:Nat):Int):=by rw[Ktq (by omega) (by omega)];omega
 have w2:wi ((j:Int)+1)=((j+1:Nat):Int):=by rw[Ktq (by omega) (by omega)];omega
 have h16:∃ y,(bif decide (scZ a[i].First b[j].First>0) then some a[i].First else some b[j].First)=some y∧aOk y:=by
  cases decide (scZ a[i].First b[j].First>0)
  ·exact⟨_,rfl,ob.1⟩
  exact⟨_,rfl,oa.1⟩
 have h22:∃ y,(bif decide (scZ a[i].Last b[j].Last<0) then some a[i].Last else some b[j].Last)=some y∧aOk y:=by
  cases decide (scZ a[i].Last b[j].Last<0)
  ·exact⟨_,rfl,ob.2.1⟩
  exact⟨_,rfl,oa.2.1⟩
 obtain⟨y1,e1,o1⟩:=h16
 obtain⟨y2,e2,o2⟩:=h22
 refine Kam e1 (Kam e2 ?_)
 refine Kal (P:=fun r:List Kxt=>spOk r∧(r.length:Int)≤(i:Int)+j+1) ?_ fun r hr=>?_
 ·refine Kao (fun g=>?_) fun _=>Kak ⟨g1,by omega⟩
  have g:=of_decide_eq_true g
  exact Kav (by simp;omega) (Kak ⟨g1.app (spOk.one ⟨o1,o2,(Lon _ _).1 g⟩),by simp;omega⟩)
 rw[w1,w2]
 refine Kao (fun _=>Kak ⟨⟨hr.1,?_⟩,?_⟩) fun _=>Kak ⟨⟨hr.1,?_⟩,?_⟩
 ·have:=hr.2;refine⟨?_,?_,?_,?_,?_⟩<;>simp only<;>omega
 ·simp only;omega
 ·have:=hr.2;refine⟨?_,?_,?_,?_,?_⟩<;>simp only<;>omega
 simp only;omega
end Go.Gk
namespace Go.Gk
section
variable{K V:Type}[BEq K][LawfulBEq K][KLt K]
theorem Kwa(e:K×V)(m:List (K×V))(k:K):mGet (e :: m) k=if k==e.1 then some e.2 else mGet m k:=by
 unfold mGet
 simp only[List.find?_cons]
 cases (k==e.1)<;>rfl
theorem Kwb{m:List (K×V)}{k:K}(h:∀ e∈m,e.1≠k):mGet m k=none:=by
 induction m with
 | nil=>rfl
 | cons e m ih=>
  rw[Kwa,ih fun x hx=>h x (List.mem_cons_of_mem _ hx)]
  have:(k==e.1)=false:=by simpa using (h e List.mem_cons_self).symm
  rw[this];rfl
theorem Kwc{m:List (K×V)}{k:K}{v:V}(hn:∀ e∈m,e.1≠k)(k':K):mGet (mIns k v m) k'=if k'==k then some v else mGet m k':=by
 induction m with
 | nil=>simp[mIns,Kwa]
 | cons e m ih=>
  simp only[mIns]
  cases hlt:KLt.lt k e.1 with
  | true=>simp[Kwa]
  | false=>
   simp only[cond_false,Kwa,ih fun x hx=>hn x (List.mem_cons_of_mem _ hx)]
   by_cases h1:k'=e.1
   ·subst h1
    have:(e.1==k)=false:=by simpa using hn e (List.mem_cons_self ..)
    simp[this]
   have:(k'==e.1)=false:=by simpa using h1
   simp[this]
theorem Kwd{m:List (K×V)}{k:K}{v:V}(hn:∀ e∈m,e.1≠k):mSet m k v=mIns k v m:=by
 unfold mSet
 have:m.findIdx? (fun e=>k==e.1)=none:=by
  rw[List.findIdx?_eq_none_iff]
  intro e he
  simpa using (hn e he).symm
 rw[this]
theorem Kwe{m:List (K×V)}{k:K}{v:V}{i:Nat}(h:m.findIdx? (fun e=>k==e.1)=some i):mSet m k v=m.set i (k,v):=by unfold mSet;rw[h]
theorem Kwf(m:List (K×V))(k:K)(v:V)(k':K):mGet (mSet m k v) k'=if k'==k then some v else mGet m k':=by
 cases hf:m.findIdx? (fun e=>k==e.1) with
 | none=>
  have hn:∀ e∈m,e.1≠k:=fun e he=>by
   have:=List.findIdx?_eq_none_iff.1 hf e he
   intro e2;subst e2;simp at this
  rw[Kwd hn,Kwc hn]
 | some i=>
  rw[Kwe hf]
  induction m generalizing i with
  | nil=>simp at hf
  | cons e m ih=>
   rw[List.findIdx?_cons] at hf
   by_cases hk:k=e.1
   ·subst hk
    simp at hf
    subst hf
    simp only[List.set_cons_zero,Kwa]
    by_cases h2:k'=e.1
    ·subst h2;simp
    have:(k'==e.1)=false:=by simpa using h2
    simp[this]
   have hk2:(k==e.1)=false:=by simpa using hk
   rw[hk2] at hf
   simp only[Bool.false_eq_true,if_false,Option.map_eq_some_iff] at hf
   obtain⟨j,hj,rfl⟩:=hf
   simp only[List.set_cons_succ,Kwa,ih j hj]
   by_cases h2:k'=e.1
   ·subst h2
    have:(e.1==k)=false:=by simpa using Ne.symm hk
    simp[this]
   have:(k'==e.1)=false:=by simpa using h2
   simp[this]
theorem Kwg{m:List (K×V)}{k:K}{v:V}{e:K×V}(h:e∈mSet m k v):e=(k,v)∨e∈m:=by
 unfold mSet at h
 split at h
 ·exact(List.mem_or_eq_of_mem_set h).symm
 have:=(Kjf k v m).mem_iff.1 h
 simp only[List.mem_append,List.mem_singleton] at this
 exact this.symm
theorem Kwh(m:List (K×V))(k:K)(v:V):(mSet m k v).length≤m.length+1:=by
 unfold mSet
 split
 ·simp
 have:=(Kjf k v m).length_eq
 simp at this
 omega
end
structure GrOk(p:Kxn)(m1 m2 m3:List Str):Prop where
 gs:p.Groups=[⟨[100,101,118],m1⟩,⟨[101,110,103],m2⟩,⟨[111,112,115],m3⟩]
 m1:m1.length≤3∧∀ x∈m1,x∈memT [98,111,98]
 m2:m2.length≤3∧∀ x∈m2,x∈memT [64,100,101,118]
 m3:m3.length≤3∧∀ x∈m3,x∈memT [64,101,110,103]
theorem PolOk.gr3{p:Kxn}(h:PolOk p):∃ m1 m2 m3,GrOk p m1 m2 m3:=let ⟨m1,m2,m3,e,h1,h2,h3⟩:=h.gs;⟨m1,m2,m3,e,h1,h2,h3⟩
variable{p:Kxn}{m1 m2 m3:List Str}
theorem Kwi(h:GrOk p m1 m2 m3):Laj 400 p [100,101,118]=some (0,true):=by unfold Laj;rw[h.gs];kernel_rfl
theorem Kwj(h:GrOk p m1 m2 m3):Laj 400 p [101,110,103]=some (1,true):=by unfold Laj;rw[h.gs];kernel_rfl
theorem Kwk(h:GrOk p m1 m2 m3):Laj 400 p [111,112,115]=some (2,true):=by unfold Laj;rw[h.gs];kernel_rfl
theorem Kwl(k:Nat)(i:Int)(g:Kxd)(j:Int)(hg:getZ p.Groups i=some g)(hl:g.Members.length≤3)(hm:∀ x∈g.Members,(∃ y,Kqz x [64]=some (y,false))∨∃ y,Kqz x [64]=some (y,true)∧Laj k p y=some (j,true)) :
  ∃ n,n≤3∧Lak k p i=some (List.replicate n j):=by
 unfold Lak
 rw[hg,bi_some]
 obtain⟨r,h1,n,h2,rfl⟩:=Kaq (f:=fun i3 x5 s4=>bi (Kqz x5 [64]) fun y14=>bif y14.2 then(bi (Laj k p y14.1) fun y17=>bif y17.2 then(bi (apd s4 [y17.1]) fun y20=>some y20) else(some s4)) else(some s4)) (l:=g.Members) (s:=([]:List Int)) (fun i s=>∃ n,n≤i∧s=List.replicate n j) ⟨0,Nat.le_refl _,rfl⟩ (by
  rintro i x s hx ⟨n,h1,rfl⟩
  have hi:i<g.Members.length:=(List.getElem?_eq_some_iff.1 hx).1
  rcases hm x (List.mem_of_getElem? hx) with⟨y,e⟩ | ⟨y,e,e2⟩
  ·exact Kam e (Kak ⟨n,by omega,rfl⟩)
  ·refine Kam e ?_
   simp only[cond_true]
   refine Kam e2 ?_
   simp only[cond_true]
   exact Kav (by simp;omega) (Kak ⟨n+1,by omega,by rw[List.replicate_succ']⟩))
 exact⟨n,by omega,by rw[h1];rfl⟩
theorem Lqw(h:GrOk p m1 m2 m3):Lak 400 p 0=some []:=by
 have hh:∀ x∈m1,∃ y,Kqz x [64]=some (y,false):=fun x hx=>by
  have:=h.m1.2 x hx
  simp only[memT,List.mem_cons,List.not_mem_nil,or_false] at this
  rcases this with rfl | rfl | rfl<;>exact⟨_,rfl⟩
 unfold Lak
 rw[h.gs,show getZ [(⟨[100,101,118],m1⟩:Kxd),⟨[101,110,103],m2⟩,⟨[111,112,115],m3⟩] 0=some ⟨[100,101,118],m1⟩ from rfl,bi_some]
 obtain⟨r,h1,rfl⟩:=Kaq (f:=fun i3 x5 s4=>bi (Kqz x5 [64]) fun y14=>bif y14.2 then(bi (Laj 400 p y14.1) fun y17=>bif y17.2 then(bi (apd s4 [y17.1]) fun y20=>some y20) else(some s4)) else(some s4)) (l:=m1) (s:=([]:List Int)) (fun i s=>s=[]) rfl (by
  rintro i x s hx rfl
  obtain⟨y,e⟩:=hh x (List.mem_of_getElem? hx)
  exact Kam e (Kak rfl))
 simp only
 rw[h1];rfl
theorem Lqx(h:GrOk p m1 m2 m3):∃ n,n≤3∧Lak 400 p 1=some (List.replicate n 0):=by
 refine Kwl 400 1 ⟨[101,110,103],m2⟩ 0 (by rw[h.gs];rfl) h.m2.1 fun x hx=>?_
 have:=h.m2.2 x hx
 simp only[memT,List.mem_cons,List.not_mem_nil,or_false] at this
 rcases this with rfl | rfl | rfl
 ·exact .inl ⟨_,rfl⟩
 ·exact .inl ⟨_,rfl⟩
 exact .inr ⟨_,rfl,Kwi h⟩
theorem Lqy(h:GrOk p m1 m2 m3):∃ n,n≤3∧Lak 400 p 2=some (List.replicate n 1):=by
 refine Kwl 400 2 ⟨[111,112,115],m3⟩ 1 (by rw[h.gs];rfl) h.m3.1 fun x hx=>?_
 have:=h.m3.2 x hx
 simp only[memT,List.mem_cons,List.not_mem_nil,or_false] at this
 rcases this with rfl | rfl | rfl
 ·exact .inl ⟨_,rfl⟩
 ·exact .inl ⟨_,rfl⟩
 exact .inr ⟨_,rfl,Kwj h⟩
theorem Kwm(h:GrOk p m1 m2 m3)(j:Nat)(hj:j≤2):∃ n,n≤3∧Lak 400 p (j:Int)=some (List.replicate n ((j:Int) - 1))∧(n≠0→1≤j):=by
 rcases(show j=0∨j=1∨j=2 by omega) with rfl | rfl | rfl
 ·exact⟨0,by decide,Lqw h,fun e=>absurd rfl e⟩
 ·obtain⟨n,h1,h2⟩:=Lqx h
  exact⟨n,h1,h2,fun _=>by decide⟩
 obtain⟨n,h1,h2⟩:=Lqy h
 exact⟨n,h1,h2,fun _=>by decide⟩
def RK(r:List (Int×Bool)):Prop:=r.length≤2∧∀ e∈r,0≤e.1∧e.1≤2
theorem Kwn(h:GrOk p m1 m2 m3)(i:Nat)(hi:i≤2):Ok (Lal 400 p (i:Int)) RK:=by
 unfold Lal
 refine Kal (P:=fun r:List (Int×Bool)×List Int=>RK r.1) (Kat (fun s:List (Int×Bool)×List Int=>(s.2=[]∧RK s.1)∨∃ j:Nat,j≤2∧s.2=[(j:Int)]∧s.1.length+j≤2∧∀ e∈s.1,(j:Int)≤e.1∧e.1≤2) (fun s=>match s.2 with | []=>0 | x :: _=>x.toNat+1) _ (.inr ⟨i,hi,rfl,by simp;omega,fun e he=>by cases he⟩) (by simp;omega) fun s hs=>?_) fun q hq=>Kak hq
 obtain⟨seen,l⟩:=s
 rcases hs with⟨e,h1⟩ | ⟨j,hj,e,h1,h2⟩
 ·simp only at e;subst e
  exact Kao (fun g=>absurd g (by simp)) fun _=>Kak h1
 simp only at e;subst e
 simp only at h1 h2
 refine Kao (fun _=>?_) fun g=>absurd g (by simp)
 obtain⟨n,hn,hw,hn1⟩:=Kwm h j hj
 refine Kam (r:=(j:Int)) rfl (Kam hw ?_)
 have hnk:mGet seen ((j:Int) - 1)=none:=Kwb fun e he=>by have:=(h2 e he).1;omega
 refine Kal (P:=fun st=>st=(seen,[(j:Int)])∨(n≠0∧st=(mSet seen ((j:Int) - 1) true,[(j:Int),(j:Int) - 1]))) (Kan (Kaq (fun idx st=>(idx=0∧st=(seen,[(j:Int)]))∨(idx≠0∧st=(mSet seen ((j:Int) - 1) true,[(j:Int),(j:Int) - 1]))) (.inl ⟨rfl,rfl⟩) ?_) ?_) ?_
 ·rintro idx x st hx hI
  obtain rfl:x=(j:Int) - 1:=List.eq_of_mem_replicate (List.mem_of_getElem? hx)
  rcases hI with⟨_,rfl⟩ | ⟨_,rfl⟩
  ·simp only[hnk,Option.getD_none,Bool.not_false,cond_true]
   exact Kav (by simp) (Kak (.inr ⟨by omega,rfl⟩))
  simp only[Kwf,BEq.rfl,if_true,Option.getD_some,Bool.not_true,cond_false]
  exact Kak (.inr ⟨by omega,rfl⟩)
 ·rintro st (⟨_,rfl⟩ | ⟨h0,rfl⟩)
  ·exact .inl rfl
  exact .inr ⟨by simpa using h0,rfl⟩
 rintro st (rfl | ⟨h0,rfl⟩)
 ·refine Kam (r:=([]:List Int)) rfl (Kak ⟨.inl ⟨rfl,(by show seen.length≤2;omega),fun e he=>?_⟩,by simp⟩)
  have:=h2 e he;omega
 have hj1:=hn1 h0
 have hl:=Kwh seen ((j:Int) - 1) true
 refine Kam (r:=[(j:Int) - 1]) rfl (Kak ⟨.inr ⟨j - 1,by omega,?_,?_,fun e he=>?_⟩,?_⟩)
 ·simp only;congr 1;omega
 ·simp only;omega
 ·rcases Kwg he with rfl | he
  ·simp only;omega
  have:=h2 e he;omega
 simp only;omega
theorem Kwo(q:List Str)(hq:q.length≤300):Lck 400 q=some (rise q):=by
 unfold Lck Lci
 rw[Ktw (by simp;omega)]
 obtain⟨e1,e2⟩:=Kah 400 q (by omega) (by omega)
 simp only[List.nil_append,bi_some]
 rw[e1]
 simp only[bi_some,List.length_mergeSort,decide_true]
 show bi (Lcj 400 _) _=_
 rw[e2];rfl
def usG(p:Kxn)(k:Int):List Str:=(((getZ p.Groups k).map fun g=>g.Members).getD []).filter fun x=>!(Lib.hasPrefix x [64])
theorem Kwp(h:GrOk p m1 m2 m3)(i:Nat)(hi:i≤2):Ok (Lcl 400 p (i:Int)) TT:=by
 unfold Lcl
 refine Kal (Kwn h i hi) fun y hy=>?_
 have hM:(mSet y (i:Int) true).length≤3∧∀ e∈mSet y (i:Int) true,0≤e.1∧e.1≤2:=by
  refine⟨by have:=Kwh y (i:Int) true;have:=hy.1;omega,fun e he=>?_⟩
  rcases Kwg he with rfl | he
  ·simp only;omega
  exact hy.2 e he
 generalize mSet y (i:Int) true=M at hM
 have hg:∀ k:Int,0≤k→k≤2→∃ g:Kxd,getZ p.Groups k=some g∧g.Members.length≤3:=fun k h0 h2=>by
  rw[h.gs]
  rcases(show k=0∨k=1∨k=2 by omega) with rfl | rfl | rfl
  ·exact⟨_,rfl,h.m1.1⟩
  ·exact⟨_,rfl,h.m2.1⟩
  exact⟨_,rfl,h.m3.1⟩
 have round:∀ (x:Int×Bool) (s:List Str),0≤x.1→x.1≤2→s.length≤100→(bi (getZ p.Groups x.1) fun x21=>bi (rangeF (σ:=List Str) (fun i23 x25 s24=>bi (Kqx x25 [64]) fun y34=>bif !y34 then(bi (apd s24 [x25]) fun y37=>some y37) else(some s24)) 0 x21.Members s) fun q26=>some q26)=some (s++usG p x.1)∧(usG p x.1).length≤3:=by
  intro x s h0 h2 hs
  obtain⟨g,e,hl⟩:=hg x.1 h0 h2
  have hu:usG p x.1=g.Members.filter fun x=>!(Lib.hasPrefix x [64]):=by unfold usG;rw[e];rfl
  refine⟨?_,by rw[hu];exact Nat.le_trans (List.length_filter_le _ _) hl⟩
  rw[e,bi_some,hu]
  obtain⟨r,h1,h2⟩:=Kaq (f:=fun i23 x25 s24=>bi (Kqx x25 [64]) fun y34=>bif !y34 then(bi (apd s24 [x25]) fun y37=>some y37) else(some s24)) (l:=g.Members) (s:=s) (fun i r=>r=s++(g.Members.take i).filter fun x=>!(Lib.hasPrefix x [64])) (by simp) (by
   rintro i x r hx rfl
   have hi:=(List.getElem?_eq_some_iff.1 hx).1
   refine Kam (r:=Lib.hasPrefix x [64]) rfl ?_
   have hlen:((g.Members.take i).filter fun x=>!(Lib.hasPrefix x [64])).length≤3:=Nat.le_trans (List.length_filter_le _ _) (by simp;omega)
   rw[List.take_add_one,hx,Option.toList_some,List.filter_append,List.filter_cons,List.filter_nil]
   cases Lib.hasPrefix x [64]
   ·refine Kav (by simp;omega) (Kak ?_)
    simp
   refine Kak ?_
   simp)
  rw[h1,bi_some,h2]
  simp
 have loop:∀ (m':List (Int×Bool)) (s:List Str),(∀ e∈m',0≤e.1∧e.1≤2)→s.length+3 * m'.length≤100→rangeL (fun (x10:Int×Bool) (s9:List Str)=>bi (getZ p.Groups x10.1) fun x21=>bi (rangeF (σ:=List Str) (fun i23 x25 s24=>bi (Kqx x25 [64]) fun y34=>bif !y34 then(bi (apd s24 [x25]) fun y37=>some y37) else(some s24)) 0 x21.Members s9) fun q26=>some q26) m' s=some (s++m'.flatMap fun e=>usG p e.1)∧(s++m'.flatMap fun e=>usG p e.1).length≤s.length+3 * m'.length:=by
  intro m'
  induction m' with
  | nil=>intro s _ _;simp[rangeL]
  | cons e m' ih=>
   intro s he hl
   simp only[List.length_cons] at hl
   obtain⟨h1,h2⟩:=round e s (he e List.mem_cons_self).1 (he e List.mem_cons_self).2 (by omega)
   obtain⟨h3,h4⟩:=ih (s++usG p e.1) (fun x hx=>he x (List.mem_cons_of_mem _ hx)) (by simp;omega)
   refine⟨?_,?_⟩
   ·simp only[rangeL,h1]
    rw[h3]
    simp
   simp only[List.flatMap_cons,List.length_cons]
   rw[←List.append_assoc]
   simp only[List.length_append] at h4 ⊢
   omega
 refine⟨rise (M.flatMap fun e=>usG p e.1),Klw fun m' hm=>?_,trivial⟩
 have hl:=hm.length_eq
 obtain⟨h1,h2⟩:=loop m' [] (fun e he=>hM.2 e (hm.mem_iff.1 he)) (by simp;omega)
 refine⟨_,h1,?_⟩
 simp only[List.nil_append] at h2 ⊢
 rw[Kwo _ (by simp only[List.length_nil] at h2;omega),bi_some]
 refine congrArg some (Kad (Kaf _) (Kaf _) fun x=>?_)
 rw[Kag,Kag]
 simp only[List.mem_flatMap]
 constructor
 ·rintro⟨e,he,hx⟩;exact⟨e,hm.mem_iff.1 he,hx⟩
 rintro⟨e,he,hx⟩;exact⟨e,hm.mem_iff.2 he,hx⟩
end Go.Gk
namespace Go.Gk
section
variable{α β σ ρ:Type}
theorem ok_t{x:α}:Ok (some x) TT:=⟨x,rfl,trivial⟩
theorem ok_b{m:Option α}{g:α→Option β}(h:Ok m TT)(k:∀ r,Ok (g r) TT):Ok (bi m g) TT:=Kal h fun r _=>k r
theorem Lnj{f:Nat→α→σ→Option (LS σ ρ)}{l:List α}{s:σ}(step:∀ (i:Nat) (x:α) (s:σ),l[i]?=some x→Ok (f i x s) TT):Ok (rangeM f 0 l s) TT:=
 Kan (Kas (fun _ _=>True) TT trivial fun i x s hx _=>Kan (step i x s hx) fun r _=>by cases r<;>trivial) fun _ _=>trivial
theorem Lnk{m:Option (LS σ ρ)}{g:σ→Option ρ}(h:Ok m TT)(k:∀ s,Ok (g s) TT):Ok (bi m fun q=>goI q g) TT:=Kvk (P:=TT) (Kan h fun r _=>by cases r<;>trivial) fun s _=>k s
theorem Lnl{A:Type}{m:Option (A ⊕ ρ)}{g:A→Option ρ}(h:Ok m TT)(k:∀ a,Ok (g a) TT):Ok (bi m fun q=>orI q g) TT:=Kwq (P:=TT) (Kan h fun r _=>by cases r<;>trivial) fun a _=>k a
theorem Lnm{b:Bool}{m n:Option α}(h1:Ok m TT)(h2:Ok n TT):Ok (bif b then m else n) TT:=Kao (fun _=>h1) fun _=>h2
theorem Lnn{l:List α}{i:Nat}{x:α}{g:α→Option β}(hx:l[i]?=some x)(hl:l.length≤100000)(hp:decide (((i:Int):Int)>0)=true)(k:∀ x,Ok (g x) TT):Ok (bi (getZ l (wi ((i:Int) - 1))) g) TT:=by
 have hp:=of_decide_eq_true hp
 have hi:i<l.length:=(List.getElem?_eq_some_iff.1 hx).1
 exact Kvc (by rw[Ktq (by omega) (by omega)];omega) (by rw[Ktq (by omega) (by omega)];omega) fun x _=>k x
end
theorem Lno(n:Int)(h0:0≤n):Ok (Laq n) TT:=by
 unfold Laq
 refine Kao (fun _=>ok_t) fun g1=>Kao (fun g2=>?_) fun _=>Lnm ok_t ?_
 ·have g1:=of_decide_eq_false g1
  have g2:=of_decide_eq_true g2
  obtain⟨k,hk⟩:=Int.eq_ofNat_of_zero_le (show 0≤n - 64 by omega)
  rw[Ktq (by omega) (by omega),hk]
  exact ok_b ok_t fun _=>ok_t
 obtain⟨k,rfl⟩:=Int.eq_ofNat_of_zero_le h0
 exact ok_b ok_t fun _=>ok_t
theorem cp_n(p:Kxf):Ok (Las p) TT:=by
 unfold Las
 rw[Kvw,bi_some]
 refine Lnm ok_t ?_
 have hlen:∀ a:Kxe,∃ n:Int,Lao a=some n∧(n=32∨n=128):=fun a=>by unfold Lao;cases a.Six<;>exact⟨_,rfl,by decide⟩
 obtain⟨n,hn,hn2⟩:=hlen p.Addr
 rw[hn,bi_some]
 refine Kam (r:=(decide (p.Bits<0))||(decide (p.Bits>n))) rfl (Kao (fun _=>ok_t) fun g=>?_)
 simp only[Bool.or_eq_false_iff,decide_eq_false_iff_not] at g
 refine ok_b ?_ fun _=>Lnm ok_t ok_t
 unfold Lar
 rw[hn,bi_some]
 exact ok_b (Lno _ (by rw[Ktq (by omega) (by omega)];omega)) fun _=>ok_t
theorem Lnp(p:Kxn)(hl:p.Groups.length≤100)(name:Str):Ok (Laj 400 p name) TT:=by
 unfold Laj Lai
 refine ok_b (Kal (bs_n p.Groups (fun a=>Lah a name) (fun a _=>⟨_,rfl,trivial⟩) hl) fun q hq=>ok_b ?_ fun _=>ok_t) fun _=>ok_t
 obtain⟨i,rfl,hi⟩:=hq
 exact Kao (fun g=>Kvc (by omega) (of_decide_eq_true g) fun x _=>ok_b ⟨_,rfl,trivial⟩ fun _=>ok_t) fun _=>ok_t
theorem Lnq(p:Kxn)(hl:p.Hosts.length≤100)(name:Str):Ok (Law 400 p name) TT:=by
 unfold Law Lav
 refine ok_b (Kal (bs_n p.Hosts (fun a=>Lau a name) (fun a _=>⟨_,rfl,trivial⟩) hl) fun q hq=>ok_b ?_ fun _=>ok_t) fun _=>ok_t
 obtain⟨i,rfl,hi⟩:=hq
 exact Kao (fun g=>Kvc (by omega) (of_decide_eq_true g) fun x _=>ok_b ⟨_,rfl,trivial⟩ fun _=>ok_t) fun _=>ok_t
theorem Lnr(l:List Kxo)(hl:l.length≤100)(name:Str):Ok (Lbj 400 l name) TT:=by
 unfold Lbj Lbi
 refine ok_b (Kal (bs_n l (fun a=>Lbh a name) (fun a _=>⟨_,rfl,trivial⟩) hl) fun q hq=>ok_b ?_ fun _=>ok_t) fun _=>ok_t
 obtain⟨i,rfl,hi⟩:=hq
 exact Kao (fun g=>Kvc (by omega) (of_decide_eq_true g) fun x _=>ok_b ⟨_,rfl,trivial⟩ fun _=>ok_t) fun _=>ok_t
theorem Lns(s:List Str)(v:Str):Ok (Lag s v) TT:=by
 unfold Lag Laf
 exact ok_b (Lnk (Lnj fun i x s hx=>Lnm ok_t ok_t) fun _=>ok_t) fun _=>ok_t
theorem Lnt(l:List Str)(hl:l.length≤100)(h:∀ x∈l,x.length≤100):Ok (Lbb 400 l) TT:=by
 unfold Lbb
 refine Lnk (Lnj fun i x s hx=>?_) fun _=>ok_t
 refine ok_b (Kwr x (h x (List.mem_of_getElem? hx))) fun _=>Lnm ok_t (ok_b (Kao (fun hp=>Lnn hx (by omega) hp fun _=>ok_t) fun _=>ok_t) fun _=>Lnm ok_t ok_t)
theorem Lnu(x:Str)(hx:x∈memT [98,111,98]∨x∈memT [64,100,101,118]∨x∈memT [64,101,110,103]):(Lib.trimPrefix x [64]).length≤100:=by
 simp only[memT,List.mem_cons,List.not_mem_nil,or_false] at hx
 rcases hx with(rfl | rfl | rfl) | (rfl | rfl | rfl) | (rfl | rfl | rfl)<;>decide
variable{p:Kxn}{m1 m2 m3:List Str}
theorem Lnv(h:GrOk p m1 m2 m3)(g:Kxd)(hg:g∈p.Groups):g.Name.length≤3∧g.Members.length≤3∧∀ x∈g.Members,x∈memT [98,111,98]∨x∈memT [64,100,101,118]∨x∈memT [64,101,110,103]:=by
 rw[h.gs] at hg
 simp only[List.mem_cons,List.not_mem_nil,or_false] at hg
 rcases hg with rfl | rfl | rfl
 ·exact⟨by simp,h.m1.1,fun x hx=>.inl (h.m1.2 x hx)⟩
 ·exact⟨by simp,h.m2.1,fun x hx=>.inr (.inl (h.m2.2 x hx))⟩
 exact⟨by simp,h.m3.1,fun x hx=>.inr (.inr (h.m3.2 x hx))⟩
theorem Lnw(h:GrOk p m1 m2 m3):Ok (Lam 400 p) TT:=by
 have hgl:p.Groups.length=3:=by rw[h.gs];rfl
 unfold Lam
 refine Lnm ok_t (Lnk (Lnj fun i x s hx=>?_) fun _=>Lnk (Lnj fun i x s hx=>?_) fun _=>Lnk (Kap (by rw[hgl];rfl) ?_) fun _=>ok_t)
 ·obtain⟨g1,g2,g3⟩:=Lnv h x (List.mem_of_getElem? hx)
  refine ok_b (Kwr x.Name (by omega)) fun _=>Lnm ok_t (ok_b (Kao (fun hp=>Lnn hx (by omega) hp fun _=>ok_t) fun _=>ok_t) fun _=>Lnm ok_t (Lnm ok_t ?_))
  refine Lnk (Lnj fun j y s hy=>?_) fun _=>ok_t
  refine Kam (r:=Lib.trimPrefix y [64]) rfl (ok_b (Kwr _ (Lnu y (g3 y (List.mem_of_getElem? hy)))) fun _=>Lnm ok_t ?_)
  obtain⟨z,hz⟩:=Kvn x.Members j (Nat.le_of_lt (List.getElem?_eq_some_iff.1 hy).1)
  exact Kam hz (ok_b (Lns _ _) fun _=>Lnm ok_t ok_t)
 ·obtain⟨g1,g2,g3⟩:=Lnv h x (List.mem_of_getElem? hx)
  refine Lnk (Lnj fun j y s hy=>?_) fun _=>ok_t
  exact ok_b ⟨_,rfl,trivial⟩ fun _=>Lnm (ok_b (Lnp p (by omega) _) fun _=>Lnm ok_t ok_t) ok_t
 unfold rangeI
 refine Lnj fun i x s hx=>?_
 have hi:i<3:=by have:=(List.getElem?_eq_some_iff.1 hx).1;rw[hgl] at this;simpa using this
 exact Kal (Kwn h i (by omega)) fun _ _=>Lnm ok_t ok_t
theorem Lnx(l:List Kxg)(hl:l.length≤100)(h:∀ x∈l,x.Name.length≤100):Ok (Lat 400 l) TT:=by
 unfold Lat
 refine Lnm ok_t (Lnk (Lnj fun i x s hx=>?_) fun _=>ok_t)
 refine ok_b (Kwr x.Name (h x (List.mem_of_getElem? hx))) fun _=>Lnm ok_t (ok_b (Kao (fun hp=>Lnn hx (by omega) hp fun _=>ok_t) fun _=>ok_t) fun _=>Lnm ok_t ?_)
 exact ok_b (cp_n _) fun _=>Lnm ok_t ok_t
theorem Lny{k:Int}{x:Str}(h:x∈nmT k):x.length≤4:=by
 unfold nmT at h
 split at h<;>simp only[List.mem_cons,List.not_mem_nil,or_false] at h
 all_goals first
  | (rcases h with rfl | rfl | rfl<;>decide)
  | (rcases h with rfl | rfl<;>decide)
  | (subst h;decide)
theorem Lnz(p:Kxn)(hg:p.Groups.length≤100)(hh:p.Hosts.length≤100)(w:Kxh)(hw:wOk w):Ok (Lax 400 p w) TT:=by
 unfold Lax
 refine ok_b ⟨_,rfl,trivial⟩ fun _=>ok_b ⟨_,rfl,trivial⟩ fun _=>Lnm ok_t (Lnm ok_t (ok_b (Lnm (ok_b (Kwr _ (by have:=Lny hw.2.1;omega)) fun _=>ok_t) ok_t) fun _=>Lnm ok_t (Lnl ?_ fun _=>Lnm ok_t ok_t)))
 exact Lnm (ok_b (Lnp p hg _) fun _=>ok_t) (Lnm (ok_b (Lnq p hh _) fun _=>ok_t) (Lnm (ok_b (cp_n _) fun _=>ok_t) ok_t))
theorem Loa(p:Kxn)(hg:p.Groups.length≤100)(hh:p.Hosts.length≤100)(g:Kxk)(h:gOk g):Ok (Lbc 400 p g) TT:=by
 obtain⟨h1,h2,h3,h4⟩:=h
 unfold Lbc
 refine Lnm ok_t (Lnm ok_t (Lnk (Lnj fun i x s hx=>?_) fun _=>Lnk (Lnj fun i x s hx=>?_) fun _=>?_))
 ·exact ok_b (Lnz p hg hh x (h1.2 x (List.mem_of_getElem? hx))) fun _=>Lnm ok_t (Lnm ok_t ok_t)
 ·exact ok_b (Lnz p hg hh x.What (h2.2 x (List.mem_of_getElem? hx))) fun _=>Lnm ok_t (ok_b ⟨_,rfl,trivial⟩ fun _=>Lnm ok_t (ok_b (Lnm (ok_b ⟨_,rfl,trivial⟩ fun _=>ok_t) ok_t) fun _=>ok_t))
 refine ok_b ⟨_,rfl,trivial⟩ fun _=>Lnm ok_t (ok_b (Lnm (ok_b ⟨_,rfl,trivial⟩ fun _=>ok_t) ok_t) fun _=>Lnm ok_t ?_)
 exact ok_b (Lnt _ (by omega) fun x hx=>by have:=h4 x hx;omega) fun _=>Lnm ok_t (Lnm ok_t ok_t)
theorem Lob(h:PolOk p):p.Hosts.length=2∧∀ x∈p.Hosts,x.Name.length≤100:=by
 obtain⟨b1,b2,e,_⟩:=h.hs
 rw[e]
 refine⟨rfl,fun x hx=>?_⟩
 simp only[List.mem_cons,List.not_mem_nil,or_false] at hx
 rcases hx with rfl | rfl<;>simp
theorem Loc(h:PolOk p):Ok (Lbe 400 p) TT:=by
 obtain⟨m1,m2,m3,hg⟩:=h.gr3
 have hgl:p.Groups.length=3:=by rw[hg.gs];rfl
 have hh:=Lob h
 unfold Lbe
 refine ok_b (Lnw hg) fun _=>Lnm ok_t (ok_b (Lnx _ (by omega) hh.2) fun _=>Lnm ok_t (Lnm ok_t (Lnk (Lnj fun i x s hx=>?_) fun _=>Lnm ok_t (Lnk (Lnj fun i x s hx=>?_) fun _=>ok_t))))
 ·exact ok_b (Loa p (by omega) (by omega) x (h.gr.2 x (List.mem_of_getElem? hx))) fun _=>Lnm ok_t ok_t
 rw[Kvx]
 exact ok_b ok_t fun _=>Lnm ok_t ok_t
theorem Lod{x:Str}{T:List Str}(hT:T.all (fun y=>decide (y.length≤100))=true)(h:x∈T):x.length≤100:=of_decide_eq_true (List.all_eq_true.1 hT x h)
theorem Loe(n:Kxo)(h:nOk n):n.Tags.length≤2∧∀ x∈n.Tags,x.length≤100:=by
 have:=h.tags
 simp only[tagN,List.mem_cons,List.not_mem_nil,or_false] at this
 rcases this with e | e | e | e<;>rw[e]
 ·exact⟨by decide,fun x hx=>by cases hx⟩
 ·exact⟨by decide,fun x hx=>Lod (T:=[[119,101,98]]) (by decide) hx⟩
 ·exact⟨by decide,fun x hx=>Lod (T:=[[100,98]]) (by decide) hx⟩
 exact⟨by decide,fun x hx=>Lod (T:=[[100,98],[119,101,98]]) (by decide) hx⟩
theorem Lof(n:Kxo)(h:nOk n)(seen:List (Kxe×Bool)):Ok (Lbf 400 n seen) TT:=by
 unfold Lbf
 refine ok_b (Lnm (ok_b (Kwr _ (Lod (by decide) h.user)) fun _=>ok_t) ok_t) fun _=>Lnm ok_t (Lnm ok_t (ok_b (Lnt _ (by have:=(Loe n h).1;omega) (Loe n h).2) fun _=>Lnm ok_t (Lnm ok_t (Lnm ok_t (Lnk (Lnj fun i x s hx=>?_) fun _=>Lnm ok_t (Lnk (Lnj fun i x s hx=>?_) fun _=>ok_t))))))
 ·rw[Kvw]
  exact ok_b ok_t fun _=>Lnm ok_t (Lnm ok_t ok_t)
 refine ok_b (cp_n _) fun _=>Lnm ok_t ?_
 obtain⟨z,hz⟩:=Kvn n.Routes i (Nat.le_of_lt (List.getElem?_eq_some_iff.1 hx).1)
 exact Kam hz (ok_b (Kvo _ _) fun _=>Lnm ok_t ok_t)
theorem Log(ns:List Kxo)(hl:ns.length≤4)(h:∀ n∈ns,nOk n):Ok (Lbg 400 ns) TT:=by
 unfold Lbg
 refine Lnm ok_t (Lnk (Lnj fun i x s hx=>?_) fun _=>ok_t)
 have hx':=h x (List.mem_of_getElem? hx)
 refine ok_b (Kwr _ (Lod (by decide) hx'.key)) fun _=>ok_b (Lnm ok_t (ok_b (Kwr _ (Lod (by decide) hx'.name)) fun _=>ok_t)) fun _=>Lnm ok_t ?_
 exact ok_b (Kao (fun hp=>Lnn hx (by omega) hp fun _=>ok_t) fun _=>ok_t) fun _=>Lnm ok_t (ok_b (Lof x hx' s) fun _=>Lnm ok_t ok_t)
theorem Loh(ns:List Kxo)(hl:ns.length≤4)(h:∀ n∈ns,nOk n)(fs:List Kxp)(hf:fs.length≤10)(hfs:∀ f∈fs,fcOk f):Ok (Lbk 400 ns fs) TT:=by
 unfold Lbk
 refine ok_b (Log ns hl h) fun _=>Lnm ok_t (Lnm ok_t (Lnk (Lnj fun i x s hx=>?_) fun _=>ok_t))
 have hx':=hfs x (List.mem_of_getElem? hx)
 refine ok_b (Lnr ns (by omega) _) fun _=>Lnm ok_t (ok_b (Kwr _ (Lod (by decide) hx'.2)) fun _=>Lnm ok_t (ok_b (Kao (fun hp=>?_) fun _=>ok_t) fun _=>Lnm ok_t ok_t))
 exact Lnn hx (by omega) hp fun _=>Lnm ok_t (Lnn hx (by omega) hp fun _=>Lnm (Lnn hx (by omega) hp fun _=>ok_t) ok_t)
theorem Loi(x:Kxq)(h:ScOk x):Ok (Lbl 400 x) TT:=by
 unfold Lbl
 exact ok_b (Loc h.pol) fun _=>Lnm ok_t (ok_b (Loh _ h.ns.1 h.ns.2 _ (by have:=h.fs.1;omega) h.fs.2) fun _=>ok_t)
end Go.Gk
namespace Go.Gk
theorem spN.up{n m:Nat}{l:List Kxt}(h:spN n l)(hm:n≤m):spN m l:=⟨h.1,Nat.le_trans h.2 hm⟩
theorem nw_o(g:Kxo→Option Bool)(ns:List Kxo)(hl:ns.length≤4)(h:∀ n∈ns,nOk n)(hg:∀ n∈ns,Ok (g n) TT) :
  Ok (bi (rangeF (σ:=List Kxe) (fun i1 x3 s2=>bi (g x3) fun y12=>bif y12 then(bi (apd s2 x3.Addrs) fun y15=>some y15) else(some s2)) 0 ns ([]:List Kxe)) fun q4=>bi (Lcc q4) fun y18=>some y18) (spN 8):=by
 refine Kal (P:=fun r:List Kxe=>r.length≤8∧∀ a∈r,aOk a) (Kan (Kaq (fun i r=>r.length≤2 * i∧∀ a∈r,aOk a) ⟨by simp,fun a ha=>by cases ha⟩ ?_) fun r hr=>⟨by have:=hr.1;omega,hr.2⟩) fun q hq=>Kal (Lpo q hq.2 (by have:=hq.1;omega)) fun r hr=>Kak (hr.up hq.1)
 rintro i x s hx ⟨g1,g2⟩
 have hi:=(List.getElem?_eq_some_iff.1 hx).1
 have hx':=h x (List.mem_of_getElem? hx)
 have hal:=hx'.addrs.1
 refine Kal (hg x (List.mem_of_getElem? hx)) fun b _=>Kao (fun _=>Kav (by omega) (Kak ⟨by simp;omega,fun a ha=>?_⟩)) fun _=>Kak ⟨by omega,g2⟩
 rcases List.mem_append.1 ha with ha | ha
 ·exact g2 a ha
 ·exact hx'.addrs.2 a ha
structure VSc(x:Kxq)(v:Kxu):Prop where
 s:v.s=x
 ok:ScOk x
theorem Kws(b1 b2:Int)(p:Kxn)(e:p.Hosts=[⟨[108,97,98],⟨⟨false,0,167772160⟩,b1⟩⟩,⟨[110,101,116,54],⟨⟨true,18230571291595767808,0⟩,b2⟩⟩]):Law 400 p [108,97,98]=some (0,true):=by unfold Law;rw[e];kernel_rfl
theorem Kwt(b1 b2:Int)(p:Kxn)(e:p.Hosts=[⟨[108,97,98],⟨⟨false,0,167772160⟩,b1⟩⟩,⟨[110,101,116,54],⟨⟨true,18230571291595767808,0⟩,b2⟩⟩]):Law 400 p [110,101,116,54]=some (1,true):=by unfold Law;rw[e];kernel_rfl
theorem Kwu(x:Kxq)(v:Kxu)(h:VSc x v)(w:Kxh)(hw:wOk w):Ok (Lcy 400 v w) (spN 8):=by
 obtain⟨k1,k2,k3⟩:=hw
 have ns:=h.ok.ns
 rw[←h.s] at ns
 unfold Lcy
 refine Kao (fun _=>Kal Lpq fun r hr=>Kak (hr.up (by omega))) fun _=>Kao (fun _=>Kal (P:=spN 8) (nw_o (fun n=>Lcg n w) v.s.Nodes ns.1 ns.2 fun n _=>⟨_,rfl,trivial⟩) fun r hr=>Kak hr) fun _=>Kao (fun e=>?_) fun _=>Kao (fun _=>Kal (P:=spN 8) (nw_o (fun n=>Lco n w) v.s.Nodes ns.1 ns.2 fun n _=>?_) fun r hr=>Kak hr) fun _=>Kao (fun _=>Kal (P:=spN 8) (nw_o (fun n=>Lcq n w) v.s.Nodes ns.1 ns.2 fun n _=>⟨_,rfl,trivial⟩) fun r hr=>Kak hr) fun _=>Kao (fun e=>?_) fun _=>Kao (fun _=>Kal (of_n w.Net (List.mem_append_left _ k3)) fun r hr=>Kak (hr.up (by omega))) fun _=>Kao (fun _=>Kal (P:=spN 8) (nw_o (fun n=>Lcu n) v.s.Nodes ns.1 ns.2 fun n _=>⟨_,rfl,trivial⟩) fun r hr=>Kak hr) fun _=>Kao (fun _=>Kal (P:=spN 8) (nw_o (fun n=>Lcw n) v.s.Nodes ns.1 ns.2 fun n _=>⟨_,rfl,trivial⟩) fun r hr=>Kak hr) fun _=>Kak ⟨(fun x hx=>by cases hx),by simp⟩
 ·have e:w.Kind=3:=by simpa using e
  rw[e] at k2
  have hpol:PolOk v.s.Policy:=by rw[h.s];exact h.ok.pol
  obtain⟨m1,m2,m3,hg⟩:=hpol.gr3
  have hat:∃ i:Nat,i≤2∧Laj 400 v.s.Policy w.Name=some ((i:Int),true):=by
   simp only[nmT,List.mem_cons,List.not_mem_nil,or_false] at k2
   rcases k2 with e | e | e<;>rw[e]
   ·exact⟨0,by decide,Kwi hg⟩
   ·exact⟨1,by decide,Kwj hg⟩
   exact⟨2,by decide,Kwk hg⟩
  obtain⟨i,hi,e1⟩:=hat
  refine Kam e1 (Kal (Kwp hg i hi) fun us _=>Kal (P:=spN 8) ?_ fun r hr=>Kak hr)
  exact nw_o (fun n=>Lcm n us) v.s.Nodes ns.1 ns.2 fun n _=>ok_b (Lns _ _) fun _=>ok_t
 ·exact ok_b (Lns _ _) fun _=>ok_t
 have e:w.Kind=6:=by simpa using e
 rw[e] at k2
 have hpol:PolOk v.s.Policy:=by rw[h.s];exact h.ok.pol
 obtain⟨b1,b2,eh,hb1,hb2⟩:=hpol.hs
 simp only[nmT,List.mem_cons,List.not_mem_nil,or_false] at k2 hb1 hb2
 rcases k2 with e | e<;>rw[e]
 ·refine Kam (Kws b1 b2 _ eh) (Kam (r:=(⟨[108,97,98],⟨⟨false,0,167772160⟩,b1⟩⟩:Kxg)) (by rw[eh];rfl) (Kal (of_n _ (List.mem_append_right _ ?_)) fun r hr=>Kak (hr.up (by omega))))
  rcases hb1 with rfl | rfl | rfl<;>simp[hostT]
 refine Kam (Kwt b1 b2 _ eh) (Kam (r:=(⟨[110,101,116,54],⟨⟨true,18230571291595767808,0⟩,b2⟩⟩:Kxg)) (by rw[eh];rfl) (Kal (of_n _ (List.mem_append_right _ ?_)) fun r hr=>Kak (hr.up (by omega))))
 rcases hb2 with rfl | rfl | rfl<;>simp[hostT]
theorem Kwv(n:Kxo)(g:Kxk)(v:Kxu):Ok (Ldd n g v) TT:=by
 unfold Ldd Ldc Ldb
 exact ok_b (ok_b (Lnk (Lnj fun i x s hx=>ok_b ⟨_,rfl,trivial⟩ fun _=>Lnm ok_t ok_t) fun _=>ok_t) fun _=>ok_t) fun _=>ok_t
theorem Kww(x:Kxq)(v:Kxu)(h:VSc x v)(g:Kxk)(hg:gOk g):Ok (Ldi 400 v g) (spN 24):=by
 have ns:=h.ok.ns
 rw[←h.s] at ns
 unfold Ldi
 refine Kal (P:=spN 16) (Kan (Kaq (fun i s=>spN (8 * i) s) ⟨(fun x hx=>by cases hx),by simp⟩ ?_) fun r hr=>hr.up (by have:=hg.1.1;omega)) fun q hq=>Kao (fun _=>Kak (hq.up (by omega))) fun _=>?_
 ·rintro i y s hy ⟨g1,g2⟩
  have hi:=(List.getElem?_eq_some_iff.1 hy).1
  have hgl:=hg.1.1
  refine Kal (Kwu x v h y (hg.1.2 y (List.mem_of_getElem? hy))) fun r hr=>?_
  have hrl:=hr.2
  exact Kal (Lpp s r g1 hr.1 (by omega)) fun z hz=>Kak (hz.up (by omega))
 refine Kal (P:=spN 8) (nw_o (fun n=>Ldd n (⟨g.Src,g.Dst,g.Proto,g.Postures⟩:Kxk) v) v.s.Nodes ns.1 ns.2 fun n _=>Kwv n _ v) fun y hy=>?_
 have:=hq.2
 have:=hy.2
 exact Kal (Lps q y hq.1 hy.1 (by omega)) fun r hr=>Kak (hr.up (by omega))
end Go.Gk
namespace Go.Gk
section
variable{K V:Type}[BEq K][LawfulBEq K][KLt K]
def gU(m:List (K×Tl V))(k:K):Tl V:=(mGet m k).getD ((1,[]):Tl V)
theorem Lpy(m:List (K×Tl V))(k:K)(r:Tl V)(k':K):gU (mSet m k r) k'=if k'==k then r else gU m k':=by
 unfold gU
 rw[Kwf]
 cases (k'==k)<;>rfl
structure InvU(al:List Bool)(m:List (K×Tl V)):Prop where
 lv:∀ s,(gU m s).1=1∨∃ q,(gU m s).1=q+2∧al[q]?=some true
 ds:∀ s s',s≠s'→(gU m s).1=(gU m s').1→(gU m s).1=1
theorem Lpz(al:List Bool):InvU al ([]:List (K×Tl V)):=⟨fun s=>.inl rfl,fun s s' _ _=>rfl⟩
theorem Lqa{al:List Bool}{m m':List (K×Tl V)}(h:InvU al m)(e:∀ s,gU m' s=gU m s):InvU al m':=⟨fun s=>by rw[e];exact h.lv s,fun s s' hn he=>by rw[e] at he ⊢;rw[e] at he;exact h.ds s s' hn he⟩
theorem Lqb{al:List Bool}{m:List (K×Tl V)}(h:InvU al m)(k:K)(xs:List V)(hl:(gU m k).2.length+xs.length≤4294967296) :
  ∃ r al',appT al (gU m k) xs=some (r,al')∧r.2=(gU m k).2++xs∧InvU al' (mSet m k r):=by
 have fin:∀ al0:List Bool,al0.length=al.length→(∀ s,s≠k→(gU m s).1=1∨∃ q,(gU m s).1=q+2∧al0[q]?=some true)→
   InvU (al0++[true]) (mSet m k (al.length+2,(gU m k).2++xs)):=by
  intro al0 h0 hlv
  have lt:∀ s,s≠k→(gU m s).1≠al.length+2:=fun s hs e=>by
   rcases hlv s hs with h1 | ⟨q,h1,h2⟩
   ·omega
   ·have:=(List.getElem?_eq_some_iff.1 h2).1
    omega
  have ne:∀ s,s≠k→gU (mSet m k (al.length+2,(gU m k).2++xs)) s=gU m s:=fun s hs=>by
   rw[Lpy]
   have:(s==k)=false:=by simpa using hs
   rw[this];rfl
  have eq:gU (mSet m k (al.length+2,(gU m k).2++xs)) k=(al.length+2,(gU m k).2++xs):=by rw[Lpy];simp
  refine⟨fun s=>?_,fun s s' hn he=>?_⟩
  ·by_cases hs:s=k
   ·subst hs
    rw[eq]
    exact .inr ⟨al.length,rfl,by rw[List.getElem?_append_right (by omega),h0];simp⟩
   ·rw[ne s hs]
    rcases hlv s hs with h1 | ⟨q,h1,h2⟩
    ·exact .inl h1
    ·refine .inr ⟨q,h1,?_⟩
     rw[List.getElem?_append_left (List.getElem?_eq_some_iff.1 h2).1]
     exact h2
  ·by_cases hs:s=k
   ·subst hs
    rw[eq,ne s' (Ne.symm hn)] at he
    exact absurd he.symm (lt s' (Ne.symm hn))
   ·rw[ne s hs] at he ⊢
    by_cases hs':s'=k
    ·subst hs'
     rw[eq] at he
     exact absurd he (lt s hs)
    ·rw[ne s' hs'] at he
     exact h.ds s s' hn he
 have happ:apd (gU m k).2 xs=some ((gU m k).2++xs):=Ktw hl
 cases xs with
 | nil=>
  refine⟨gU m k,al,?_,by simp,Lqa h fun s=>?_⟩
  ·unfold appT
   rw[happ];rfl
  ·rw[Lpy]
   by_cases hs:s=k
   ·subst hs;simp
   ·have:(s==k)=false:=by simpa using hs
    rw[this];rfl
 | cons y ys=>
  rcases h.lv k with h1 | ⟨q,h1,h2⟩
  ·refine⟨(al.length+2,(gU m k).2++(y :: ys)),al++[true],?_,rfl,fin al rfl fun s hs=>h.lv s⟩
   unfold appT
   rw[happ,bi_some,h1];rfl
  ·refine⟨(al.length+2,(gU m k).2++(y :: ys)),al.set q false++[true],?_,rfl,fin (al.set q false) (by simp) fun s hs=>?_⟩
   ·unfold appT
    rw[happ,bi_some,h1]
    simp only[List.isEmpty_cons,cond_false,h2,Option.getD_some,cond_true]
   ·rcases h.lv s with h3 | ⟨q',h3,h4⟩
    ·exact .inl h3
    ·refine .inr ⟨q',h3,?_⟩
     rw[List.getElem?_set_ne,h4]
     rintro rfl
     have:=h.ds s k hs (by rw[h3,h1])
     omega
end
def putA{V:Type}(l:List Kxe)(v:V)(m:List (Kxe×V)):List (Kxe×V):=l.foldl (fun m a=>mSet m a v) m
theorem Lqc{V:Type}(v:V):∀ (l:List Kxe) (i:Nat) (m:List (Kxe×V)),rangeF (fun _ x s=>some (mSet s x v)) i l m=some (putA l v m)
 | [],i,m=>rfl
 | a :: l,i,m=>by
  simp only[rangeF,bi_some]
  exact Lqc v l (i+1) (mSet m a v)
theorem Lqd{V W:Type}(f:V→Option W)(v:V)(w:W)(hf:f v=some w):∀ (l:List Kxe) (m:List (Kxe×V)) (m':List (Kxe×W)),(∀ a,mGet m' a=(mGet m a).bind f)→∀ a,mGet (putA l w m') a=(mGet (putA l v m) a).bind f
 | [],m,m',h=>h
 | b :: l,m,m',h=>by
  refine Lqd f v w hf l (mSet m b v) (mSet m' b w) fun a=>?_
  rw[Kwf,Kwf]
  cases (a==b)
  ·simpa using h a
  simp[hf]
theorem Lqe{V:Type}(P:V→Prop)(v:V)(hv:P v):∀ (l:List Kxe) (m:List (Kxe×V)),(∀ a w,mGet m a=some w→P w)→∀ a w,mGet (putA l v m) a=some w→P w
 | [],m,h=>h
 | b :: l,m,h=>by
  refine Lqe P v hv l (mSet m b v) fun a w hw=>?_
  rw[Kwf] at hw
  cases hb:(a==b)
  ·rw[hb] at hw;exact h a w (by simpa using hw)
  rw[hb] at hw
  have:v=w:=by simpa using hw
  exact this▸hv
def ownW(ns:List Kxo):Nat→List (Kxe×Int)
 | 0=>[]
 | i+1=>putA ((ns[i]?.map fun n=>n.Addrs).getD []) (i:Int) (ownW ns i)
def ownK(ns:List Kxo):Nat→List (Kxe×Str)
 | 0=>[]
 | i+1=>putA ((ns[i]?.map fun n=>n.Addrs).getD []) ((ns[i]?.map fun n=>n.Key).getD []) (ownK ns i)
theorem Lqf(ns:List Kxo):∀ i,i≤ns.length→∀ a w,mGet (ownW ns i) a=some w→0≤w∧w<ns.length
 | 0,_,a,w,h=>by cases h
 | i+1,hi,a,w,h=>Lqe (fun w:Int=>0≤w∧w<ns.length) (i:Int) (by omega) _ _ (Lqf ns i (by omega)) a w h
theorem Lqg(ns:List Kxo):∀ i,i≤ns.length→∀ a,mGet (ownK ns i) a=(mGet (ownW ns i) a).bind fun j=>(getZ ns j).map fun n=>n.Key
 | 0,_,a=>rfl
 | i+1,hi,a=>by
  have hx:=List.getElem?_eq_getElem (show i<ns.length by omega)
  refine Lqd (fun j:Int=>(getZ ns j).map fun n=>n.Key) (i:Int) _ ?_ _ _ _ (Lqg ns i (by omega)) a
  rw[Kue hx,hx];rfl
theorem Lqh(ns:List Kxo):Lbu ns=some (ownK ns ns.length):=by
 unfold Lbu
 obtain⟨r,h1,h2⟩:=Kaq (f:=fun i1 (x3:Kxo) (s2:List (Kxe×Str))=>bi (rangeF (σ:=List (Kxe×Str)) (fun i12 x14 s13=>some (mSet s13 x14 x3.Key)) 0 x3.Addrs s2) fun q15=>some q15) (l:=ns) (s:=([]:List (Kxe×Str))) (fun i r=>r=ownK ns i) rfl (by
  rintro i x r hx rfl
  rw[Lqc]
  refine Kak ?_
  rw[ownK,hx];rfl)
 rw[h1,bi_some,h2]
def usM(ns:List Kxo):Nat→List (Str×List Kxe)
 | 0=>[]
 | i+1=>match ns[i]? with
  | none=>usM ns i
  | some n=>if n.User=[] then usM ns i else mSet (usM ns i) n.User ((mGet (usM ns i) n.User).getD []++n.Addrs)
theorem Lqi(ns:List Kxo)(h:∀ n∈ns,nOk n):∀ i,i≤ns.length→∀ k l,mGet (usM ns i) k=some l→l.length≤2 * i∧∀ a∈l,aOk a
 | 0,_,k,l,e=>by cases e
 | i+1,hi,k,l,e=>by
  have hx:=List.getElem?_eq_getElem (show i<ns.length by omega)
  have hn:=h _ (List.getElem_mem (show i<ns.length by omega))
  have ih:=Lqi ns h i (by omega)
  rw[usM,hx] at e
  simp only at e
  split at e
  ·have:=ih k l e;exact⟨by omega,this.2⟩
  rw[Kwf] at e
  cases hk:(k==ns[i].User)
  ·rw[hk] at e
   have:=ih k l (by simpa using e);exact⟨by omega,this.2⟩
  rw[hk] at e
  have e:(mGet (usM ns i) ns[i].User).getD []++ns[i].Addrs=l:=by simpa using e
  have hd:((mGet (usM ns i) ns[i].User).getD []).length≤2 * i∧∀ a∈(mGet (usM ns i) ns[i].User).getD [],aOk a:=by
   cases hg:mGet (usM ns i) ns[i].User with
   | none=>exact⟨by simp,fun a ha=>by cases ha⟩
   | some l'=>exact ih _ l' hg
  rw[←e]
  have:=hn.addrs.1
  refine⟨by simp;omega,fun a ha=>?_⟩
  rcases List.mem_append.1 ha with ha | ha
  ·exact hd.2 a ha
  exact hn.addrs.2 a ha
theorem Lrb(ns:List Kxo)(hl:ns.length≤4)(h:∀ n∈ns,nOk n)(al:List Bool) :
  Ok (rangeF (σ:=(List Bool)×(List (Kxe×Int))×(List (Str×(Tl Kxe)))) (fun i1 x3 s2=>bi (rangeF (σ:=List (Kxe×Int)) (fun i12 x14 s13=>some (mSet s13 x14 (i1:Int))) 0 x3.Addrs s2.2.1) fun q15=>bif !((x3.User:Str)==[]) then(bi (appT s2.1 ((mGet s2.2.2 x3.User).getD (1,[])) x3.Addrs) fun y24=>some (y24.2,q15,(mSet s2.2.2 x3.User y24.1))) else(some (s2.1,q15,s2.2.2))) 0 ns (al,([]:List (Kxe×Int)),([]:List (Str×(Tl Kxe)))))
   fun r=>r.2.1=ownW ns ns.length∧SM r.2.2∧∀ k,(mGet r.2.2 k).map (fun t=>t.2)=mGet (usM ns ns.length) k:=by
 refine Kan (Kaq (fun i r=>InvU r.1 r.2.2∧r.2.1=ownW ns i∧SM r.2.2∧∀ k,(mGet r.2.2 k).map (fun t=>t.2)=mGet (usM ns i) k) ⟨Lpz al,rfl,SM.nil,fun k=>rfl⟩ ?_) fun r hr=>hr.2
 rintro i x ⟨al1,ow,us⟩ hx ⟨g1,g2,g3,g4⟩
 simp only at g1 g2 g3 g4 ⊢
 have hi:=(List.getElem?_eq_some_iff.1 hx).1
 have hx':=h x (List.mem_of_getElem? hx)
 rw[Lqc,bi_some,g2]
 have ho:putA x.Addrs (i:Int) (ownW ns i)=ownW ns (i+1):=by rw[ownW,hx];rfl
 rw[ho]
 cases hu:((x.User:Str)==[])
 ·have hne:x.User≠[]:=by simpa using hu
  simp only[Bool.not_false,cond_true]
  have hgl:(gU us x.User).2=(mGet (usM ns i) x.User).getD []:=by
   rw[←g4];unfold gU
   cases mGet us x.User<;>rfl
  have hb:(gU us x.User).2.length≤2 * i:=by
   rw[hgl]
   cases hg:mGet (usM ns i) x.User with
   | none=>simp
   | some l=>exact(Lqi ns h i (by omega) _ l hg).1
  have:=hx'.addrs.1
  obtain⟨r,al2,e1,e2,e3⟩:=Lqb g1 x.User x.Addrs (by omega)
  refine Kam e1 (Kak ⟨e3,rfl,g3.set _ _,fun k=>?_⟩)
  rw[usM,hx]
  simp only[if_neg hne]
  rw[Kwf,Kwf]
  cases (k==x.User)
  ·simpa using g4 k
  ·simp[e2,hgl]
 ·have he:x.User=[]:=by simpa using hu
  refine Kak ⟨g1,rfl,g3,fun k=>?_⟩
  rw[usM,hx]
  simp only[if_pos he]
  exact g4 k
theorem Lrc(ns:List Kxo)(hl:ns.length≤4)(h:∀ n∈ns,nOk n) :
  ∃ own,∀ us:List (Str×Tl Kxe),SM us→(∀ k,(mGet us k).map (fun t=>t.2)=mGet (usM ns ns.length) k)→
   rangeP (σ:=List (Str×(List Kxt))) (fun x34 s33=>bi (Lcc x34.2.2) fun y87=>some (mSet s33 x34.1 y87)) us ([]:List (Str×(List Kxt)))=some own:=by
 have tot:∀ us:List (Str×Tl Kxe),SM us→(∀ k,(mGet us k).map (fun t=>t.2)=mGet (usM ns ns.length) k)→∃ own,rangeP (σ:=List (Str×(List Kxt))) (fun x34 s33=>bi (Lcc x34.2.2) fun y87=>some (mSet s33 x34.1 y87)) us ([]:List (Str×(List Kxt)))=some own∧SM own∧∀ k,mGet own k=(mGet (usM ns ns.length) k).bind Lcc:=by
  intro us hs hk
  obtain⟨r,h1,h2,h3⟩:=Kse (V2:=List Kxt) hs (SM.nil (K:=Str) (V:=List Kxt)) (f:=fun x34 s33=>bi (Lcc x34.2.2) fun y87=>some (mSet s33 x34.1 y87)) (fun _ t=>Lcc t.2) (by
   rintro⟨k,t⟩ s hx
   have hg:=hs.get hx
   have hk':=hk k
   rw[hg] at hk'
   have hin:=Lqi ns h ns.length (Nat.le_refl _) k t.2 hk'.symm
   obtain⟨y,e,_⟩:=Lpo t.2 hin.2 (by omega)
   simp only[e,bi_some])
  refine⟨r,h1,h2,fun k=>?_⟩
  rw[h3 k,←hk k]
  cases mGet us k with
  | none=>rfl
  | some t=>
   simp only[Option.bind_some,Option.map_some]
   cases Lcc t.2<;>rfl
 by_cases hex:∃ us:List (Str×Tl Kxe),SM us∧∀ k,(mGet us k).map (fun t=>t.2)=mGet (usM ns ns.length) k
 ·obtain⟨us0,a1,a2⟩:=hex
  obtain⟨own,b1,b2,b3⟩:=tot us0 a1 a2
  refine⟨own,fun us c1 c2=>?_⟩
  obtain⟨own',d1,d2,d3⟩:=tot us c1 c2
  rw[d1,SM.ext d2 b2 fun k=>by rw[d3,b3]]
 ·exact⟨[],fun us c1 c2=>absurd ⟨us,c1,c2⟩ hex⟩
structure VOk(x:Kxq)(v:Kxu):Prop where
 s:v.s=x
 ow:v.owners=ownW x.Nodes x.Nodes.length
 src:v.src.length=x.Policy.Grants.length∧∀ r∈v.src,spN 24 r
 dst:v.dst.length=x.Policy.Grants.length∧∀ (i:Nat) g d,x.Policy.Grants[i]?=some g→v.dst[i]?=some d→d.length=g.Dst.length∧∀ r∈d,spN 8 r
theorem Lqj(x:Kxq)(h:ScOk x):∃ v,VOk x v∧∀ al,∃ al',Ldj 400 x al=some (v,al'):=by
 obtain⟨own,hown⟩:=Lrc x.Nodes h.ns.1 h.ns.2
 obtain⟨mt,hmt,_⟩:=Kaq (f:=fun i42 (x44:Kxp) (s43:List (Kxp×Bool))=>some (mSet s43 x44 true)) (l:=x.Facts) (s:=([]:List (Kxp×Bool))) (fun _ _=>True) trivial fun i y s hy _=>ok_t
 obtain⟨sd,hsd,g1,g2,g3,g4⟩:=Kaq (f:=fun i53 (x55:Kxk) (s54:(List (List Kxt))×(List (List (List Kxt))))=>bi (Ldi 400 (⟨x,ownW x.Nodes x.Nodes.length,mt,s54.1,s54.2,own⟩:Kxu) x55) fun y64=>bi (apd s54.1 [y64]) fun y66=>bi (rangeF (σ:=List (List Kxt)) (fun i68 x70 s69=>bi (Lcy 400 (⟨x,ownW x.Nodes x.Nodes.length,mt,y66,s54.2,own⟩:Kxu) x70.What) fun y79=>bi (apd s69 [y79]) fun y81=>some y81) 0 x55.Dst ([]:List (List Kxt))) fun q71=>bi (apd s54.2 [q71]) fun y83=>some (y66,y83)) (l:=x.Policy.Grants) (s:=(([]:List (List Kxt)),([]:List (List (List Kxt)))))
  (fun i s=>s.1.length=i∧(∀ r∈s.1,spN 24 r)∧s.2.length=i∧∀ (j:Nat) g d,x.Policy.Grants[j]?=some g→s.2[j]?=some d→d.length=g.Dst.length∧∀ r∈d,spN 8 r) ⟨rfl,(fun r hr=>by cases hr),rfl,fun j g d _ hd=>by simp at hd⟩ (by
  rintro i g ⟨sr,ds⟩ hg ⟨g1,g2,g3,g4⟩
  simp only at g1 g2 g3 g4 ⊢
  have hi:=(List.getElem?_eq_some_iff.1 hg).1
  have hgk:=h.pol.gr.2 g (List.mem_of_getElem? hg)
  have hgl:=h.pol.gr.1
  refine Kal (Kww x _ ⟨rfl,h⟩ g hgk) fun y hy=>Kav (by simp;omega) ?_
  refine Kal (P:=fun r:List (List Kxt)=>r.length=g.Dst.length∧∀ z∈r,spN 8 z) (Kan (Kaq (fun j r=>r.length=j∧∀ z∈r,spN 8 z) ⟨rfl,fun z hz=>by cases hz⟩ ?_) fun r hr=>hr) fun q hq=>Kav (by simp;omega) (Kak ⟨by simp;omega,fun r hr=>?_,by simp;omega,fun j g' d hg' hd=>?_⟩)
  ·rintro j t r ht ⟨k1,k2⟩
   have hj:=(List.getElem?_eq_some_iff.1 ht).1
   have hdl:=hgk.2.1.1
   refine Kal (Kwu x _ ⟨rfl,h⟩ t.What (hgk.2.1.2 t (List.mem_of_getElem? ht))) fun z hz=>Kav (by simp;omega) (Kak ⟨by simp;omega,fun w hw=>?_⟩)
   rcases List.mem_append.1 hw with hw | hw
   ·exact k2 w hw
   rw[List.mem_singleton.1 hw];exact hz
  ·rcases List.mem_append.1 hr with hr | hr
   ·exact g2 r hr
   rw[List.mem_singleton.1 hr];exact hy
  by_cases hj:j<ds.length
  ·rw[List.getElem?_append_left hj] at hd
   exact g4 j g' d hg' hd
  have hj2:=(List.getElem?_eq_some_iff.1 hd).1
  simp at hj2
  obtain rfl:j=i:=by omega
  rw[List.getElem?_append_right (by omega),g3] at hd
  have hd:q=d:=by simpa using hd
  rw[hg] at hg'
  cases hg'
  rw[←hd]
  exact hq)
 refine⟨⟨x,ownW x.Nodes x.Nodes.length,mt,sd.1,sd.2,own⟩,⟨rfl,rfl,⟨g1,g2⟩,⟨g3,g4⟩⟩,fun al=>?_⟩
 obtain⟨⟨al',ow,us⟩,e1,e2,e3,e4⟩:=Lrb x.Nodes h.ns.1 h.ns.2 al
 simp only at e2 e3 e4
 subst e2
 refine⟨al',?_⟩
 unfold Ldj
 rw[e1,bi_some]
 simp only
 rw[hown us e3 e4,bi_some,hmt,bi_some,hsd,bi_some]
end Go.Gk
