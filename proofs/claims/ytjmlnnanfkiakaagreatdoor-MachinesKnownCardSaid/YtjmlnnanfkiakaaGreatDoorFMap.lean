import Derived.Test.YtjmlnnanfkiakaaGreatDoorFYard
set_option linter.all false
set_option maxRecDepth 100000
namespace Go.Gk
theorem Kba{α:Type}(l:List (Nat×α))(n:Nat)(x:α):hGet ((n,x) :: l) (n+1)=some x:=by simp[hGet]
theorem Kbb{α:Type}(l:List (Nat×α))(n:Nat)(x:α)(h:Nat)(hn:h≠n+1):hGet ((n,x) :: l) h=hGet l h:=by
 cases h with
 | zero=>rfl
 | succ t=>
  have:(t==n)=false:=by simp;omega
  simp[hGet,List.find?_cons,this]
theorem Kbc{α:Type}(l:List (Nat×α))(h h':Nat)(x y:α)(hy:hGet l h=some y):hGet (hSet l h x) h'=if h'=h then some x else hGet l h':=by
 obtain⟨t,i,rfl,h1,h2⟩:=Kmx hy
 have hset:hSet l (t+1) x=l.set i (t,x):=by simp only[hSet,h1]
 rw[hset]
 cases h' with
 | zero=>rw[if_neg (by omega)];rfl
 | succ s=>
  have key:∀ (l:List (Nat×α)) (i:Nat),l.findIdx? (fun e=>t==e.1)=some i→((l.set i (t,x)).find? fun e=>s==e.1).map (·.2)=if s=t then some x else(l.find? fun e=>s==e.1).map (·.2):=by
   intro l
   induction l with
   | nil=>intro i h;simp at h
   | cons e l ih=>
    intro i h
    rw[List.findIdx?_cons] at h
    by_cases ht:t=e.1
    ·have h0:(t==e.1)=true:=by simpa using ht
     rw[h0] at h
     simp only[if_true,Option.some.injEq] at h
     subst h
     simp only[List.set_cons_zero,List.find?_cons]
     by_cases hs:s=t
     ·subst hs;simp
     have e1:(s==t)=false:=by simpa using hs
     have e2:(s==e.1)=false:=by rw[←ht];exact e1
     simp only[e1,e2,if_neg hs]
    have h0:(t==e.1)=false:=by simpa using ht
    rw[h0] at h
    simp only[Bool.false_eq_true,if_false,Option.map_eq_some_iff] at h
    obtain⟨j,hj,rfl⟩:=h
    simp only[List.set_cons_succ,List.find?_cons]
    by_cases hs:s=e.1
    ·have e1:(s==e.1)=true:=by simpa using hs
     simp only[e1]
     rw[if_neg (by rw[hs];exact Ne.symm ht)]
    have e1:(s==e.1)=false:=by simpa using hs
    simp only[e1]
    exact ih j hj
  have:=key l i h1
  simp only[hGet]
  rw[this]
  by_cases hs:s=t
  ·subst hs;simp
  rw[if_neg hs,if_neg (by omega)]
theorem Kbd{α:Type}{l:List (Nat×α)}{h b:Nat}{x:α}(hl:∀ e∈l,e.1<b):∀ e∈hSet l h x,e.1<b:=by
 unfold hSet
 cases h with
 | zero=>exact hl
 | succ t=>
  simp only
  cases hi:l.findIdx? (fun e=>t==e.1) with
  | none=>exact hl
  | some i=>
   intro e he
   rcases List.mem_or_eq_of_mem_set he with h1 | rfl
   ·exact hl e h1
   obtain⟨h1,h2,_⟩:=List.findIdx?_eq_some_iff_getElem.1 hi
   have:=hl _ (List.getElem_mem h1)
   have ht:t=(l[i]).1:=by simpa using h2
   simp only;omega
theorem Kbe{α:Type}{l:List (Nat×α)}{h b:Nat}(hl:∀ e∈l,e.1<b):∀ e∈hDel l h,e.1<b:=by
 unfold hDel
 cases h with
 | zero=>exact hl
 | succ t=>
  simp only
  cases hi:l.findIdx? (fun e=>t==e.1) with
  | none=>exact hl
  | some i=>exact fun e he=>hl e ((List.eraseIdx_sublist ..).subset he)
theorem Kbf{α:Type}{l:List (Nat×α)}{h:Nat}{x:α}(hh:hGet l h=some x):∃ t,h=t+1∧(t,x)∈l:=by
 obtain⟨t,i,rfl,_,h2⟩:=Kmx hh
 exact⟨t,rfl,List.mem_of_getElem? h2⟩
theorem Kbg{α:Type}{l:List (Nat×α)}{h b:Nat}{x:α}(hl:∀ e∈l,e.1<b)(hh:hGet l h=some x):h≠b+1:=by
 obtain⟨t,rfl,hm⟩:=Kbf hh
 have:=hl _ hm
 simp only at this;omega
theorem Kbh{α:Type}{l:List (Nat×α)}{h h':Nat}(hn:h'≠h):hGet (hDel l h) h'=hGet l h':=by
 unfold hDel
 cases h with
 | zero=>rfl
 | succ t=>
  simp only
  cases hi:l.findIdx? (fun e=>t==e.1) with
  | none=>rfl
  | some i=>
   cases h' with
   | zero=>rfl
   | succ s=>
    have hst:s≠t:=fun e=>hn (by rw[e])
    have key:∀ (l:List (Nat×α)) (i:Nat),l.findIdx? (fun e=>t==e.1)=some i→((l.eraseIdx i).find? fun e=>s==e.1)=l.find? fun e=>s==e.1:=by
     intro l
     induction l with
     | nil=>intro i h;simp at h
     | cons e l ih=>
      intro i h
      rw[List.findIdx?_cons] at h
      by_cases ht:t=e.1
      ·have h0:(t==e.1)=true:=by simpa using ht
       rw[h0] at h
       simp only[if_true,Option.some.injEq] at h
       subst h
       have e2:(s==e.1)=false:=by rw[←ht];simpa using hst
       simp only[List.eraseIdx_zero,List.tail_cons,List.find?_cons,e2]
      have h0:(t==e.1)=false:=by simpa using ht
      rw[h0] at h
      simp only[Bool.false_eq_true,if_false,Option.map_eq_some_iff] at h
      obtain⟨j,hj,rfl⟩:=h
      simp only[List.eraseIdx_cons_succ,List.find?_cons]
      cases s==e.1 with
      | true=>rfl
      | false=>exact ih j hj
    simp only[hGet,key l i hi]
section
variable{K V W:Type}[BEq K][LawfulBEq K][KLt K][KOrd K]
theorem Kbi(f:V→W)(m:List (K×V))(k:K):mGet (m.map fun e=>(e.1,f e.2)) k=(mGet m k).map f:=by
 induction m with
 | nil=>rfl
 | cons e m ih=>
  simp only[List.map_cons,Kwp,ih]
  cases k==e.1<;>rfl
theorem SM.map{f:V→W}{m:List (K×V)}(h:SM m):SM (m.map fun e=>(e.1,f e.2)):=List.pairwise_map.2 h
theorem Kbj(f:V→W){m:List (K×V)}(h:SM m)(k:K)(v:V):(mSet m k v).map (fun e=>(e.1,f e.2))=mSet (m.map fun e=>(e.1,f e.2)) k (f v):=
 SM.ext (h.set k v).map (h.map.set k (f v)) fun k'=>by
  rw[Kbi,Kwv,Kwv,Kbi]
  cases k'==k<;>rfl
theorem SM.del{m:List (K×V)}(h:SM m)(k:K):SM (mDel m k):=by
 unfold mDel
 cases m.findIdx? (fun e=>k==e.1) with
 | none=>exact h
 | some i=>exact h.sublist (List.eraseIdx_sublist ..)
theorem Kbk{m:List (K×V)}(h:SM m)(k k':K):mGet (mDel m k) k'=if k'==k then none else mGet m k':=by
 unfold mDel
 cases hi:m.findIdx? (fun e=>k==e.1) with
 | none=>
  by_cases hk:k'=k
  ·subst hk
   simp only[beq_self_eq_true,if_true]
   exact Kwq.2 fun e he e2=>by
    have:=List.findIdx?_eq_none_iff.1 hi e he
    rw[e2] at this;simp at this
  have:(k'==k)=false:=by simpa using hk
  simp[this]
 | some i=>
  induction m generalizing i with
  | nil=>simp at hi
  | cons e m ih=>
   obtain⟨h1,h2⟩:=List.pairwise_cons.1 h
   rw[List.findIdx?_cons] at hi
   by_cases hk:k=e.1
   ·subst hk
    simp at hi
    subst hi
    simp only[List.eraseIdx_zero,List.tail_cons,Kwp]
    by_cases h3:k'=e.1
    ·subst h3
     simp only[beq_self_eq_true,if_true]
     exact Kwq.2 fun x hx=>(Kwn (h1 x hx)).symm
    have:(k'==e.1)=false:=by simpa using h3
    simp[this]
   have hk2:(k==e.1)=false:=by simpa using hk
   rw[hk2] at hi
   simp only[Bool.false_eq_true,if_false,Option.map_eq_some_iff] at hi
   obtain⟨j,hj,rfl⟩:=hi
   simp only[List.eraseIdx_cons_succ,Kwp,ih h2 j hj]
   by_cases h3:k'=e.1
   ·subst h3
    have:(e.1==k)=false:=by simpa using Ne.symm hk
    simp[this]
   have:(k'==e.1)=false:=by simpa using h3
   simp[this]
theorem Kbl(f:V→W){m:List (K×V)}(h:SM m)(k:K):(mDel m k).map (fun e=>(e.1,f e.2))=mDel (m.map fun e=>(e.1,f e.2)) k:=
 SM.ext (h.del k).map (h.map.del k) fun k'=>by
  rw[Kbi,Kbk h,Kbk h.map,Kbi]
  cases k'==k<;>rfl
end
section
variable{X:Type}
def absH(x0:X)(ar:List (Nat×X))(m:List (Str×Nat)):List (Str×X):=m.map fun e=>(e.1,(hGet ar e.2).getD x0)
structure HOk(ar:List (Nat×X))(m:List (Str×Nat)):Prop where
 sm:SM m
 ok:∀ k h,mGet m k=some h→∃ x,hGet ar h=some x
 inj:∀ k k' h,mGet m k=some h→mGet m k'=some h→k=k'
theorem Kbm(x0:X)(ar:List (Nat×X))(m:List (Str×Nat))(k:Str):mGet (absH x0 ar m) k=(mGet m k).map fun h=>(hGet ar h).getD x0:=Kbi (fun h=>(hGet ar h).getD x0) m k
theorem Kbn(x0:X)(ar:List (Nat×X)){m:List (Str×Nat)}(h:SM m):SM (absH x0 ar m):=SM.map (f:=fun h=>(hGet ar h).getD x0) h
theorem HOk.nil{ar:List (Nat×X)}:HOk ar []:=⟨SM.nil,(fun k h e=>by cases e),(fun k k' h e _=>by cases e)⟩
theorem HOk.at(x0:X){ar:List (Nat×X)}{m:List (Str×Nat)}(h:HOk ar m)(k:Str):(mGet (absH x0 ar m) k=none∧(mGet m k).getD 0=0)∨∃ a x,mGet (absH x0 ar m) k=some x∧mGet m k=some a∧(mGet m k).getD 0=a∧hGet ar a=some x∧0<a:=by
 rw[Kbm]
 cases hm:mGet m k with
 | none=>exact .inl ⟨rfl,rfl⟩
 | some a=>
  obtain⟨x,hx⟩:=h.ok k a hm
  exact .inr ⟨a,x,by rw[Option.map_some,hx];rfl,rfl,rfl,hx,Knk hx⟩
theorem HOk.set(x0:X){ar:List (Nat×X)}{m:List (Str×Nat)}(h:HOk ar m){k:Str}{a:Nat}(hm:mGet m k=some a)(x:X):HOk (hSet ar a x) m∧absH x0 (hSet ar a x) m=mSet (absH x0 ar m) k x:=by
 obtain⟨y,hy⟩:=h.ok k a hm
 refine⟨⟨h.sm,fun k' a' hk=>?_,h.inj⟩,SM.ext (Kbn x0 _ h.sm) ((Kbn x0 _ h.sm).set k x) fun k'=>?_⟩
 ·obtain⟨z,hz⟩:=h.ok k' a' hk
  rw[Kbc _ _ _ _ _ hy]
  by_cases e:a'=a
  ·exact⟨x,by rw[if_pos e]⟩
  exact⟨z,by rw[if_neg e];exact hz⟩
 have e1:mGet (absH x0 (hSet ar a x) m) k'=_:=Kbm x0 (hSet ar a x) m k'
 have e2:mGet (mSet (absH x0 ar m) k x) k'=_:=Kwv _ _ _ _
 refine e1.trans (Eq.trans ?_ e2.symm)
 rw[Kbm]
 by_cases hk:k'=k
 ·subst hk
  simp only[beq_self_eq_true,if_true,hm,Option.map_some,Kbc _ _ _ _ _ hy]
  rfl
 have:(k'==k)=false:=by simpa using hk
 rw[this]
 simp only[Bool.false_eq_true,if_false]
 cases hk':mGet m k' with
 | none=>rfl
 | some a'=>
  have hne:a'≠a:=fun e=>hk (h.inj k' k a' hk' (e▸hm))
  simp only[Option.map_some,Kbc _ _ _ _ _ hy,if_neg hne]
theorem HOk.new(x0:X){ar:List (Nat×X)}{m:List (Str×Nat)}{b:Nat}(h:HOk ar m)(hb:∀ e∈ar,e.1<b)(k:Str)(x:X)(hk:mGet m k=none):HOk ((b,x) :: ar) (mSet m k (b+1))∧absH x0 ((b,x) :: ar) (mSet m k (b+1))=mSet (absH x0 ar m) k x:=by
 have old:∀ k' a,mGet m k'=some a→a≠b+1∧hGet ((b,x) :: ar) a=hGet ar a:=fun k' a ha=>by
  obtain⟨y,hy⟩:=h.ok k' a ha
  have:=Kbg hb hy
  exact⟨this,Kbb _ _ _ _ this⟩
 refine⟨⟨h.sm.set _ _,fun k' a' hg=>?_,fun k1 k2 a' h1 h2=>?_⟩,SM.ext (Kbn x0 _ (h.sm.set _ _)) ((Kbn x0 _ h.sm).set k x) fun k'=>?_⟩
 ·rw[Kwv] at hg
  split at hg
  ·cases hg;exact⟨x,Kba _ _ _⟩
  rw[(old k' a' hg).2];exact h.ok k' a' hg
 ·rw[Kwv] at h1 h2
  split at h1<;>split at h2
  ·rename_i q1 q2;rw[beq_iff_eq.1 q1,beq_iff_eq.1 q2]
  ·cases h1;exact absurd rfl (old k2 _ h2).1
  ·cases h2;exact absurd rfl (old k1 _ h1).1
  exact h.inj k1 k2 a' h1 h2
 have e1:mGet (absH x0 ((b,x) :: ar) (mSet m k (b+1))) k'=_:=Kbm x0 _ _ k'
 have e2:mGet (mSet (absH x0 ar m) k x) k'=_:=Kwv _ _ _ _
 refine e1.trans (Eq.trans ?_ e2.symm)
 rw[Kbm,Kwv]
 cases hq:k'==k with
 | true=>simp only[if_true,Option.map_some,Kba];rfl
 | false=>
  simp only[Bool.false_eq_true,if_false]
  cases hk':mGet m k' with
  | none=>rfl
  | some a'=>simp only[Option.map_some,(old k' a' hk').2]
theorem HOk.del(x0:X){ar:List (Nat×X)}{m:List (Str×Nat)}(h:HOk ar m)(k:Str):HOk ar (mDel m k)∧absH x0 ar (mDel m k)=mDel (absH x0 ar m) k:=by
 have sub:∀ k' a,mGet (mDel m k) k'=some a→mGet m k'=some a:=fun k' a hg=>by
  rw[Kbk h.sm] at hg
  split at hg
  ·cases hg
  exact hg
 exact⟨⟨h.sm.del k,fun k' a hg=>h.ok k' a (sub k' a hg),fun k1 k2 a h1 h2=>h.inj k1 k2 a (sub _ _ h1) (sub _ _ h2)⟩,Kbl (fun h=>(hGet ar h).getD x0) h.sm k⟩
theorem Kbo(x0:X)(ar:List (Nat×X))(m:List (Str×Nat)):(absH x0 ar m).length=m.length:=List.length_map ..
end
end Go.Gk
