import Derived.Test.YtmecneoeklldeaaGreatDoorGk39
set_option linter.all false
namespace Go.Gk
class KOrd (K:Type) [BEq K] [KLt K]:Prop where
 irr:∀ a:K,KLt.lt a a=false
 tr:∀ a b c:K,KLt.lt a b=true→KLt.lt b c=true→KLt.lt a c=true
 tri:∀ a b:K,KLt.lt a b=false→KLt.lt b a=false→a=b
theorem Krd:∀ a:List UInt8,Op.bytesLess a a=false
 | []=>rfl
 | x :: a=>by simp[Op.bytesLess,Krd a]
theorem Kre:∀ a b c:List UInt8,Op.bytesLess a b=true→Op.bytesLess b c=true→Op.bytesLess a c=true
 | _,[],_,h,_=>by cases ‹List UInt8›<;>simp[Op.bytesLess] at h
 | _,_ :: _,[],_,h=>by simp[Op.bytesLess] at h
 | [],_ :: _,_ :: _,_,_=>rfl
 | x :: a,y :: b,z :: c,h,k=>by
  simp only[Op.bytesLess,Bool.or_eq_true,decide_eq_true_eq,Bool.and_eq_true,beq_iff_eq] at h k ⊢
  rcases h with h | ⟨rfl,h⟩
  ·rcases k with k | ⟨rfl,k⟩
   ·exact .inl (UInt8.lt_trans h k)
   exact .inl h
  rcases k with k | ⟨rfl,k⟩
  ·exact .inl k
  exact .inr ⟨rfl,Kre a b c h k⟩
theorem Krf:∀ a b:List UInt8,Op.bytesLess a b=false→Op.bytesLess b a=false→a=b
 | [],[],_,_=>rfl
 | [],_ :: _,h,_=>by simp[Op.bytesLess] at h
 | _ :: _,[],_,h=>by simp[Op.bytesLess] at h
 | x :: a,y :: b,h,k=>by
  simp only[Op.bytesLess,Bool.or_eq_false_iff,decide_eq_false_iff_not,Bool.and_eq_false_iff,beq_eq_false_iff_ne,ne_eq] at h k
  have e:x=y:=by
   apply UInt8.toNat_inj.1
   have h1:=h.1;have k1:=k.1
   rw[UInt8.lt_iff_toNat_lt] at h1 k1
   omega
  subst e
  rw[Krf a b (by simpa using h.2) (by simpa using k.2)]
instance:KOrd (List UInt8):=⟨Krd,Kre,Krf⟩
instance:KOrd Int:=⟨fun a=>by simp[KLt.lt],fun a b c h k=>by simp only[KLt.lt,decide_eq_true_eq] at h k ⊢;omega,fun a b h k=>by simp only[KLt.lt,decide_eq_false_iff_not] at h k;omega⟩
section
variable{K V:Type}[BEq K][LawfulBEq K][KLt K][KOrd K]
def SM(m:List (K×V)):Prop:=m.Pairwise fun a b=>KLt.lt a.1 b.1=true
theorem Krg{a b:K}(h:KLt.lt a b=true):a≠b:=fun e=>by subst e;rw[KOrd.irr] at h;cases h
theorem SM.nil:SM ([]:List (K×V)):=List.Pairwise.nil
theorem Krh(k:K):mGet ([]:List (K×V)) k=none:=rfl
theorem Kri(e:K×V)(m:List (K×V))(k:K):mGet (e :: m) k=if k==e.1 then some e.2 else mGet m k:=by
 unfold mGet
 simp only[List.find?_cons]
 cases (k==e.1)<;>rfl
theorem Krj{m:List (K×V)}{k:K}:mGet m k=none ↔ ∀ e∈m,e.1≠k:=by
 induction m with
 | nil=>simp[Krh]
 | cons e m ih=>
  rw[Kri]
  by_cases h:k=e.1
  ·subst h;simp
  have:(k==e.1)=false:=by simpa using h
  rw[this]
  simp only[Bool.false_eq_true,if_false,ih,List.forall_mem_cons]
  exact⟨fun h1=>⟨Ne.symm h,h1⟩,fun h1=>h1.2⟩
theorem Krk{m:List (K×V)}{k:K}{v:V}(h:mGet m k=some v):(k,v)∈m:=by
 induction m with
 | nil=>cases h
 | cons e m ih=>
  rw[Kri] at h
  by_cases hk:k=e.1
  ·subst hk;simp at h;subst h;exact mCs ..
  have:(k==e.1)=false:=by simpa using hk
  rw[this] at h
  exact mCo _ (ih (by simpa using h))
theorem SM.get{m:List (K×V)}(h:SM m){k:K}{v:V}(hm:(k,v)∈m):mGet m k=some v:=by
 induction m with
 | nil=>cases hm
 | cons e m ih=>
  obtain⟨h1,h2⟩:=List.pairwise_cons.1 h
  rw[Kri]
  rcases List.mem_cons.1 hm with rfl | hm
  ·simp
  have:(k==e.1)=false:=by simpa using (Krg (h1 _ hm)).symm
  rw[this]
  simpa using ih h2 hm
theorem SM.mem_iff{m:List (K×V)}(h:SM m){k:K}{v:V}:(k,v)∈m ↔ mGet m k=some v:=⟨h.get,Krk⟩
theorem SM.ext:∀ {a b:List (K×V)},SM a→SM b→(∀ k,mGet a k=mGet b k)→a=b
 | [],[],_,_,_=>rfl
 | [],e :: b,_,_,h=>by have:=h e.1;rw[Krh,Kri] at this;simp at this
 | e :: a,[],_,_,h=>by have:=h e.1;rw[Krh,Kri] at this;simp at this
 | x :: a,y :: b,ha,hb,h=>by
  obtain⟨a1,a2⟩:=List.pairwise_cons.1 ha
  obtain⟨b1,b2⟩:=List.pairwise_cons.1 hb
  have hxy:x.1=y.1:=by
   cases h1:KLt.lt x.1 y.1 with
   | true=>
    have hx:=h x.1
    rw[Kri,Kri] at hx
    have hn:(x.1==y.1)=false:=by simpa using Krg h1
    rw[hn] at hx
    simp only[beq_self_eq_true,if_true,Bool.false_eq_true,if_false] at hx
    have:=b1 _ (Krk hx.symm)
    have:=KOrd.tr _ _ _ h1 this
    rw[KOrd.irr] at this;cases this
   | false=>
    cases h2:KLt.lt y.1 x.1 with
    | true=>
     have hy:=h y.1
     rw[Kri,Kri] at hy
     have hn:(y.1==x.1)=false:=by simpa using Krg h2
     rw[hn] at hy
     simp only[beq_self_eq_true,if_true,Bool.false_eq_true,if_false] at hy
     have:=a1 _ (Krk hy)
     have:=KOrd.tr _ _ _ h2 this
     rw[KOrd.irr] at this;cases this
    | false=>exact KOrd.tri _ _ h1 h2
  have hv:x.2=y.2:=by
   have:=h x.1
   rw[Kri,Kri,←hxy] at this
   simpa using this
  have he:x=y:=Prod.ext hxy hv
  subst he
  congr 1
  refine SM.ext a2 b2 fun k=>?_
  have hk:=h k
  rw[Kri,Kri] at hk
  by_cases e:k=x.1
  ·subst e
   rw[Krj.2 fun e he=>(Krg (a1 e he)).symm,Krj.2 fun e he=>(Krg (b1 e he)).symm]
  have:(k==x.1)=false:=by simpa using e
  simpa [this] using hk
theorem SM.ins{m:List (K×V)}(h:SM m){k:K}{v:V}(hn:∀ e∈m,e.1≠k):SM (mIns k v m):=by
 induction m with
 | nil=>exact List.pairwise_singleton ..
 | cons e m ih=>
  obtain⟨h1,h2⟩:=List.pairwise_cons.1 h
  simp only[mIns]
  cases hlt:KLt.lt k e.1 with
  | true=>
   refine List.pairwise_cons.2 ⟨fun x hx=>?_,h⟩
   rcases List.mem_cons.1 hx with rfl | hx
   ·exact hlt
   exact KOrd.tr _ _ _ hlt (h1 x hx)
  | false=>
   have hek:KLt.lt e.1 k=true:=by
    cases hh:KLt.lt e.1 k with
    | true=>rfl
    | false=>exact absurd (KOrd.tri _ _ hlt hh).symm (hn e (mCs ..))
   refine List.pairwise_cons.2 ⟨fun x hx=>?_,ih h2 fun x hx=>hn x (mCo _ hx)⟩
   have:=(Klq k v m).mem_iff.1 hx
   simp only[List.mem_append,List.mem_singleton] at this
   rcases this with hx | rfl
   ·exact h1 x hx
   exact hek
theorem Krl{m:List (K×V)}{k:K}{v:V}(hn:∀ e∈m,e.1≠k)(k':K):mGet (mIns k v m) k'=if k'==k then some v else mGet m k':=by
 induction m with
 | nil=>simp[mIns,Kri]
 | cons e m ih=>
  simp only[mIns]
  cases hlt:KLt.lt k e.1 with
  | true=>simp[Kri]
  | false=>
   simp only[cond_false,Kri,ih fun x hx=>hn x (List.mem_cons_of_mem _ hx)]
   by_cases h1:k'=e.1
   ·subst h1
    have:(e.1==k)=false:=by simpa using hn e (mCs ..)
    simp[this]
   have:(k'==e.1)=false:=by simpa using h1
   simp[this]
theorem Krm{m:List (K×V)}{k:K}{v:V}(hn:∀ e∈m,e.1≠k):mSet m k v=mIns k v m:=by
 unfold mSet
 have:m.findIdx? (fun e=>k==e.1)=none:=by
  rw[List.findIdx?_eq_none_iff]
  intro e he
  simpa using (hn e he).symm
 rw[this]
theorem Krn{m:List (K×V)}{k:K}{v:V}{i:Nat}(h:m.findIdx? (fun e=>k==e.1)=some i):mSet m k v=m.set i (k,v):=by unfold mSet;rw[h]
theorem SM.set{m:List (K×V)}(h:SM m)(k:K)(v:V):SM (mSet m k v):=by
 cases hf:m.findIdx? (fun e=>k==e.1) with
 | none=>
  have hn:∀ e∈m,e.1≠k:=fun e he=>by
   have:=List.findIdx?_eq_none_iff.1 hf e he
   intro e2;subst e2;simp at this
  rw[Krm hn]
  exact h.ins hn
 | some i=>
  rw[Krn hf]
  obtain⟨hi,hk,_⟩:=lFi.1 hf
  have hk':k=m[i].1:=by simpa using hk
  unfold SM
  have e1:(m.set i (k,v)).map (·.1)=m.map (·.1):=by
   rw[List.map_set]
   apply List.ext_getElem?
   intro j
   by_cases hj:j=i
   ·subst hj;simp[hi,hk']
   rw[gSn (Ne.symm hj)]
  have h2:(m.map (·.1)).Pairwise fun a b=>KLt.lt a b=true:=List.pairwise_map.2 h
  rw[←e1] at h2
  exact List.pairwise_map.1 h2
theorem Kro(m:List (K×V))(k:K)(v:V)(k':K):mGet (mSet m k v) k'=if k'==k then some v else mGet m k':=by
 cases hf:m.findIdx? (fun e=>k==e.1) with
 | none=>
  have hn:∀ e∈m,e.1≠k:=fun e he=>by
   have:=List.findIdx?_eq_none_iff.1 hf e he
   intro e2;subst e2;simp at this
  rw[Krm hn,Krl hn]
 | some i=>
  rw[Krn hf]
  induction m generalizing i with
  | nil=>simp at hf
  | cons e m ih=>
   rw[List.findIdx?_cons] at hf
   by_cases hk:k=e.1
   ·subst hk
    simp at hf
    subst hf
    simp only[List.set_cons_zero,Kri]
    by_cases h2:k'=e.1
    ·subst h2;simp
    have:(k'==e.1)=false:=by simpa using h2
    simp[this]
   have hk2:(k==e.1)=false:=by simpa using hk
   rw[hk2] at hf
   simp only[Bool.false_eq_true,if_false,Option.map_eq_some_iff] at hf
   obtain⟨j,hj,rfl⟩:=hf
   simp only[List.set_cons_succ,Kri,ih j hj]
   by_cases h2:k'=e.1
   ·subst h2
    have:(e.1==k)=false:=by simpa using Ne.symm hk
    simp[this]
   have:(k'==e.1)=false:=by simpa using h2
   simp[this]
end
end Go.Gk
