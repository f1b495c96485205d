import Derived.Test.YthhdojhbohfmnaaGreatDoorGk39
import Derived.Test.YthhdojhbohfmnaaGreatDoorTLoop
set_option linter.all false
set_option maxRecDepth 100000
namespace Go.Gk
class KOrd (K:Type) [BEq K] [KLt K]:Prop where
 irr:∀ a:K,KLt.lt a a=false
 tr:∀ a b c:K,KLt.lt a b=true→KLt.lt b c=true→KLt.lt a c=true
 tri:∀ a b:K,KLt.lt a b=false→KLt.lt b a=false→a=b
theorem Ktp:∀ a:List UInt8,Op.bytesLess a a=false
 | []=>rfl
 | x :: a=>by simp[Op.bytesLess,Ktp a]
theorem Ktq:∀ a b c:List UInt8,Op.bytesLess a b=true→Op.bytesLess b c=true→Op.bytesLess a c=true
 | _,[],_,h,_=>by cases ‹List UInt8›<;>simp[Op.bytesLess] at h
 | _,_ :: _,[],_,h=>by simp[Op.bytesLess] at h
 | [],_ :: _,_ :: _,_,_=>rfl
 | x :: a,y :: b,z :: c,h,k=>by
  simp only[Op.bytesLess,Bool.or_eq_true,decide_eq_true_eq,Bool.and_eq_true,beq_iff_eq] at h k ⊢
  rcases h with h | ⟨rfl,h⟩
  ·rcases k with k | ⟨rfl,k⟩
   ·exact .inl (UInt8.lt_trans h k)
   exact .inl h
  rcases k with k | ⟨rfl,k⟩
  ·exact .inl k
  exact .inr ⟨rfl,Ktq a b c h k⟩
theorem Ktr:∀ a b:List UInt8,Op.bytesLess a b=false→Op.bytesLess b a=false→a=b
 | [],[],_,_=>rfl
 | [],_ :: _,h,_=>by simp[Op.bytesLess] at h
 | _ :: _,[],_,h=>by simp[Op.bytesLess] at h
 | x :: a,y :: b,h,k=>by
  simp only[Op.bytesLess,Bool.or_eq_false_iff,decide_eq_false_iff_not,Bool.and_eq_false_iff,beq_eq_false_iff_ne,ne_eq] at h k
  have e:x=y:=by
   apply UInt8.toNat_inj.1
   have h1:=h.1;have k1:=k.1
   rw[UInt8.lt_iff_toNat_lt] at h1 k1
   omega
  subst e
  rw[Ktr a b (by simpa using h.2) (by simpa using k.2)]
instance:KOrd (List UInt8):=⟨Ktp,Ktq,Ktr⟩
instance:KOrd Int:=⟨fun a=>by simp[KLt.lt],fun a b c h k=>by simp only[KLt.lt,decide_eq_true_eq] at h k ⊢;omega,fun a b h k=>by simp only[KLt.lt,decide_eq_false_iff_not] at h k;omega⟩
section
variable{K V:Type}[BEq K][LawfulBEq K][KLt K][KOrd K]
def SM(m:List (K×V)):Prop:=m.Pairwise fun a b=>KLt.lt a.1 b.1=true
theorem Kts{a b:K}(h:KLt.lt a b=true):a≠b:=fun e=>by subst e;rw[KOrd.irr] at h;cases h
theorem SM.nil:SM ([]:List (K×V)):=List.Pairwise.nil
theorem Ktt(k:K):mGet ([]:List (K×V)) k=none:=rfl
theorem Ktu(e:K×V)(m:List (K×V))(k:K):mGet (e :: m) k=if k==e.1 then some e.2 else mGet m k:=by
 unfold mGet
 simp only[List.find?_cons]
 cases (k==e.1)<;>rfl
theorem Ktv{m:List (K×V)}{k:K}:mGet m k=none ↔ ∀ e∈m,e.1≠k:=by
 induction m with
 | nil=>simp[Ktt]
 | cons e m ih=>
  rw[Ktu]
  by_cases h:k=e.1
  ·subst h;simp
  have:(k==e.1)=false:=by simpa using h
  rw[this]
  simp only[Bool.false_eq_true,if_false,ih,List.forall_mem_cons]
  exact⟨fun h1=>⟨Ne.symm h,h1⟩,fun h1=>h1.2⟩
theorem Ktw{m:List (K×V)}{k:K}{v:V}(h:mGet m k=some v):(k,v)∈m:=by
 induction m with
 | nil=>cases h
 | cons e m ih=>
  rw[Ktu] at h
  by_cases hk:k=e.1
  ·subst hk;simp at h;subst h;exact mCs ..
  have:(k==e.1)=false:=by simpa using hk
  rw[this] at h
  exact mCo _ (ih (by simpa using h))
theorem SM.get{m:List (K×V)}(h:SM m){k:K}{v:V}(hm:(k,v)∈m):mGet m k=some v:=by
 induction m with
 | nil=>cases hm
 | cons e m ih=>
  obtain⟨h1,h2⟩:=List.pairwise_cons.1 h
  rw[Ktu]
  rcases List.mem_cons.1 hm with rfl | hm
  ·simp
  have:(k==e.1)=false:=by simpa using (Kts (h1 _ hm)).symm
  rw[this]
  simpa using ih h2 hm
theorem SM.mem_iff{m:List (K×V)}(h:SM m){k:K}{v:V}:(k,v)∈m ↔ mGet m k=some v:=⟨h.get,Ktw⟩
theorem SM.ext:∀ {a b:List (K×V)},SM a→SM b→(∀ k,mGet a k=mGet b k)→a=b
 | [],[],_,_,_=>rfl
 | [],e :: b,_,_,h=>by have:=h e.1;rw[Ktt,Ktu] at this;simp at this
 | e :: a,[],_,_,h=>by have:=h e.1;rw[Ktt,Ktu] at this;simp at this
 | x :: a,y :: b,ha,hb,h=>by
  obtain⟨a1,a2⟩:=List.pairwise_cons.1 ha
  obtain⟨b1,b2⟩:=List.pairwise_cons.1 hb
  have hxy:x.1=y.1:=by
   cases h1:KLt.lt x.1 y.1 with
   | true=>
    have hx:=h x.1
    rw[Ktu,Ktu] at hx
    have hn:(x.1==y.1)=false:=by simpa using Kts h1
    rw[hn] at hx
    simp only[beq_self_eq_true,if_true,Bool.false_eq_true,if_false] at hx
    have:=b1 _ (Ktw hx.symm)
    have:=KOrd.tr _ _ _ h1 this
    rw[KOrd.irr] at this;cases this
   | false=>
    cases h2:KLt.lt y.1 x.1 with
    | true=>
     have hy:=h y.1
     rw[Ktu,Ktu] at hy
     have hn:(y.1==x.1)=false:=by simpa using Kts h2
     rw[hn] at hy
     simp only[beq_self_eq_true,if_true,Bool.false_eq_true,if_false] at hy
     have:=a1 _ (Ktw hy)
     have:=KOrd.tr _ _ _ h2 this
     rw[KOrd.irr] at this;cases this
    | false=>exact KOrd.tri _ _ h1 h2
  have hv:x.2=y.2:=by
   have:=h x.1
   rw[Ktu,Ktu,←hxy] at this
   simpa using this
  have he:x=y:=Prod.ext hxy hv
  subst he
  congr 1
  refine SM.ext a2 b2 fun k=>?_
  have hk:=h k
  rw[Ktu,Ktu] at hk
  by_cases e:k=x.1
  ·subst e
   rw[Ktv.2 fun e he=>(Kts (a1 e he)).symm,Ktv.2 fun e he=>(Kts (b1 e he)).symm]
  have:(k==x.1)=false:=by simpa using e
  simpa [this] using hk
theorem SM.ins{m:List (K×V)}(h:SM m){k:K}{v:V}(hn:∀ e∈m,e.1≠k):SM (mIns k v m):=by
 induction m with
 | nil=>exact List.pairwise_singleton ..
 | cons e m ih=>
  obtain⟨h1,h2⟩:=List.pairwise_cons.1 h
  simp only[mIns]
  cases hlt:KLt.lt k e.1 with
  | true=>
   refine List.pairwise_cons.2 ⟨fun x hx=>?_,h⟩
   rcases List.mem_cons.1 hx with rfl | hx
   ·exact hlt
   exact KOrd.tr _ _ _ hlt (h1 x hx)
  | false=>
   have hek:KLt.lt e.1 k=true:=by
    cases hh:KLt.lt e.1 k with
    | true=>rfl
    | false=>exact absurd (KOrd.tri _ _ hlt hh).symm (hn e (mCs ..))
   refine List.pairwise_cons.2 ⟨fun x hx=>?_,ih h2 fun x hx=>hn x (mCo _ hx)⟩
   have:=(Kkq k v m).mem_iff.1 hx
   simp only[List.mem_append,List.mem_singleton] at this
   rcases this with hx | rfl
   ·exact h1 x hx
   exact hek
theorem Ktx{m:List (K×V)}{k:K}{v:V}(hn:∀ e∈m,e.1≠k)(k':K):mGet (mIns k v m) k'=if k'==k then some v else mGet m k':=by
 induction m with
 | nil=>simp[mIns,Ktu]
 | cons e m ih=>
  simp only[mIns]
  cases hlt:KLt.lt k e.1 with
  | true=>simp[Ktu]
  | false=>
   simp only[cond_false,Ktu,ih fun x hx=>hn x (List.mem_cons_of_mem _ hx)]
   by_cases h1:k'=e.1
   ·subst h1
    have:(e.1==k)=false:=by simpa using hn e (mCs ..)
    simp[this]
   have:(k'==e.1)=false:=by simpa using h1
   simp[this]
theorem Kty{m:List (K×V)}{k:K}{v:V}(hn:∀ e∈m,e.1≠k):mSet m k v=mIns k v m:=by
 unfold mSet
 have:m.findIdx? (fun e=>k==e.1)=none:=by
  rw[List.findIdx?_eq_none_iff]
  intro e he
  simpa using (hn e he).symm
 rw[this]
theorem Ktz{m:List (K×V)}{k:K}{v:V}{i:Nat}(h:m.findIdx? (fun e=>k==e.1)=some i):mSet m k v=m.set i (k,v):=by unfold mSet;rw[h]
theorem SM.set{m:List (K×V)}(h:SM m)(k:K)(v:V):SM (mSet m k v):=by
 cases hf:m.findIdx? (fun e=>k==e.1) with
 | none=>
  have hn:∀ e∈m,e.1≠k:=fun e he=>by
   have:=List.findIdx?_eq_none_iff.1 hf e he
   intro e2;subst e2;simp at this
  rw[Kty hn]
  exact h.ins hn
 | some i=>
  rw[Ktz hf]
  obtain⟨hi,hk,_⟩:=lFi.1 hf
  have hk':k=m[i].1:=by simpa using hk
  unfold SM
  have e1:(m.set i (k,v)).map (·.1)=m.map (·.1):=by
   rw[List.map_set]
   apply List.ext_getElem?
   intro j
   by_cases hj:j=i
   ·subst hj;simp[hi,hk']
   rw[gSn (Ne.symm hj)]
  have h2:(m.map (·.1)).Pairwise fun a b=>KLt.lt a b=true:=List.pairwise_map.2 h
  rw[←e1] at h2
  exact List.pairwise_map.1 h2
theorem Kua(m:List (K×V))(k:K)(v:V)(k':K):mGet (mSet m k v) k'=if k'==k then some v else mGet m k':=by
 cases hf:m.findIdx? (fun e=>k==e.1) with
 | none=>
  have hn:∀ e∈m,e.1≠k:=fun e he=>by
   have:=List.findIdx?_eq_none_iff.1 hf e he
   intro e2;subst e2;simp at this
  rw[Kty hn,Ktx hn]
 | some i=>
  rw[Ktz hf]
  induction m generalizing i with
  | nil=>simp at hf
  | cons e m ih=>
   rw[List.findIdx?_cons] at hf
   by_cases hk:k=e.1
   ·subst hk
    simp at hf
    subst hf
    simp only[List.set_cons_zero,Ktu]
    by_cases h2:k'=e.1
    ·subst h2;simp
    have:(k'==e.1)=false:=by simpa using h2
    simp[this]
   have hk2:(k==e.1)=false:=by simpa using hk
   rw[hk2] at hf
   simp only[Bool.false_eq_true,if_false,Option.map_eq_some_iff] at hf
   obtain⟨j,hj,rfl⟩:=hf
   simp only[List.set_cons_succ,Ktu,ih j hj]
   by_cases h2:k'=e.1
   ·subst h2
    have:(e.1==k)=false:=by simpa using Ne.symm hk
    simp[this]
   have:(k'==e.1)=false:=by simpa using h2
   simp[this]
theorem SM.of_perm_keys{m m':List (K×V)}(h:SM m)(hp:m'.Perm m):m'.Pairwise fun a b=>a.1≠b.1:=
 (List.Perm.pairwise_iff (R:=fun (a b:K×V)=>a.1≠b.1) (fun {a b} hab=>Ne.symm hab) hp).2 (List.Pairwise.imp (fun hab=>Kts hab) h)
theorem Kub{α σ:Type}{f:α→σ→Option σ}{m:List α}{s r:σ}(I:List α→σ→Prop)(h0:I [] s)
  (hst:∀ (seen:List α) (x:α) (s:σ),(∃ rest,(seen++x :: rest).Perm m)→I seen s→∃ s',f x s=some s'∧I (seen++[x]) s')
  (hend:∀ (seen:List α) (s:σ),seen.Perm m→I seen s→s=r):rangeP f m s=some r:=by
 rw[Kld]
 intro m' hm'
 have key:∀ (l seen:List α) (s:σ),(seen++l).Perm m→I seen s→∃ s',rangeL f l s=some s'∧I (seen++l) s':=by
  intro l
  induction l with
  | nil=>intro seen s hp hi;exact⟨s,rfl,by simpa using hi⟩
  | cons x l ih=>
   intro seen s hp hi
   obtain⟨s',e1,e2⟩:=hst seen x s ⟨l,hp⟩ hi
   obtain⟨s2,e3,e4⟩:=ih (seen++[x]) s' (by simpa using hp) e2
   refine⟨s2,?_,by simpa using e4⟩
   simp only[rangeL,e1]
   exact e3
 obtain⟨s',e1,e2⟩:=key m' [] s (by simpa using hm') h0
 rw[e1,hend m' s' hm' (by simpa using e2)]
theorem Kuc{V2:Type}{m:List (K×V)}{s:List (K×V2)}{f:K×V→List (K×V2)→Option (List (K×V2))}(hm:SM m)(hs:SM s)(g:K→V→Option V2)
  (hf:∀ x s,x∈m→f x s=some (match g x.1 x.2 with | some v=>mSet s x.1 v | none=>s)) :
  ∃ r,rangeP f m s=some r∧SM r∧∀ k,mGet r k=match (mGet m k).bind (g k) with | some v=>some v | none=>mGet s k:=by
 let put:List (K×V2)→K×V→List (K×V2):=fun s x=>match g x.1 x.2 with | some v=>mSet s x.1 v | none=>s
 have hput:∀ s x,SM s→SM (put s x):=fun s x h=>by
  simp only[put]
  cases g x.1 x.2 with
  | none=>exact h
  | some v=>exact h.set _ _
 have hfold:∀ (l:List (K×V)) (s:List (K×V2)),SM s→SM (l.foldl put s):=by
  intro l
  induction l with
  | nil=>intro s h;exact h
  | cons x l ih=>intro s h;exact ih _ (hput s x h)
 have hget:∀ (l:List (K×V)) (s:List (K×V2)),(l.Pairwise fun a b=>a.1≠b.1)→∀ k,mGet (l.foldl put s) k=match (mGet l k).bind (g k) with | some v=>some v | none=>mGet s k:=by
  intro l
  induction l with
  | nil=>intro s _ k;rfl
  | cons x l ih=>
   intro s hd k
   obtain⟨d1,d2⟩:=List.pairwise_cons.1 hd
   rw[List.foldl_cons,ih _ d2 k,Ktu]
   by_cases hk:k=x.1
   ·subst hk
    have hn:mGet l x.1=none:=Ktv.2 fun e he=>(d1 e he).symm
    rw[hn]
    simp only[Option.bind_none,beq_self_eq_true,if_true,Option.bind_some,put]
    cases g x.1 x.2 with
    | none=>rfl
    | some v=>simp[Kua]
   ·have hk2:(k==x.1)=false:=by simpa using hk
    simp only[hk2,Bool.false_eq_true,if_false]
    cases (mGet l k).bind (g k) with
    | some v=>rfl
    | none=>
     simp only[put]
     cases g x.1 x.2 with
     | none=>rfl
     | some v=>simp[Kua,hk2]
 refine⟨m.foldl put s,?_,hfold m s hs,hget m s (hm.of_perm_keys (.refl _))⟩
 refine Kub (fun seen s'=>s'=seen.foldl put s) rfl (fun seen x s' hx hi=>?_) (fun seen s' hp hi=>?_)
 ·obtain⟨rest,hr⟩:=hx
  exact⟨_,hf x s' (hr.mem_iff.1 (by simp)),by rw[List.foldl_append,hi];rfl⟩
 ·subst hi
  refine SM.ext (hfold _ _ hs) (hfold _ _ hs) fun k=>?_
  rw[hget seen s (hm.of_perm_keys hp),hget m s (hm.of_perm_keys (.refl _))]
  have:mGet seen k=mGet m k:=by
   cases h:mGet m k with
   | none=>exact Ktv.2 fun e he=>Ktv.1 h e (hp.mem_iff.1 he)
   | some v=>
    have h1:=hp.mem_iff.2 (Ktw h)
    cases h2:mGet seen k with
    | none=>exact absurd rfl (Ktv.1 h2 _ h1)
    | some u=>have:=hm.get (hp.mem_iff.1 (Ktw h2));rw[h] at this;exact this.symm
  rw[this]
end
end Go.Gk
namespace Go.Gk
theorem Lir{α:Type}(l:List (Nat×α))(n:Nat)(x:α):hGet ((n,x) :: l) (n+1)=some x:=by simp[hGet]
theorem Lis{α:Type}(l:List (Nat×α))(n:Nat)(x:α)(h:Nat)(hn:h≠n+1):hGet ((n,x) :: l) h=hGet l h:=by
 cases h with
 | zero=>rfl
 | succ t=>
  have:(t==n)=false:=by simp;omega
  simp[hGet,List.find?_cons,this]
theorem Liu{α:Type}(l:List (Nat×α))(h h':Nat)(x y:α)(hy:hGet l h=some y):hGet (hSet l h x) h'=if h'=h then some x else hGet l h':=by
 obtain⟨t,i,rfl,h1,h2⟩:=Kmo hy
 have hset:hSet l (t+1) x=l.set i (t,x):=by simp only[hSet,h1]
 rw[hset]
 cases h' with
 | zero=>rw[if_neg (by omega)];rfl
 | succ s=>
  have key:∀ (l:List (Nat×α)) (i:Nat),l.findIdx? (fun e=>t==e.1)=some i→((l.set i (t,x)).find? fun e=>s==e.1).map (·.2)=if s=t then some x else(l.find? fun e=>s==e.1).map (·.2):=by
   intro l
   induction l with
   | nil=>intro i h;simp at h
   | cons e l ih=>
    intro i h
    rw[List.findIdx?_cons] at h
    by_cases ht:t=e.1
    ·have h0:(t==e.1)=true:=by simpa using ht
     rw[h0] at h
     simp only[if_true,Option.some.injEq] at h
     subst h
     simp only[List.set_cons_zero,List.find?_cons]
     by_cases hs:s=t
     ·subst hs;simp
     have e1:(s==t)=false:=by simpa using hs
     have e2:(s==e.1)=false:=by rw[←ht];exact e1
     simp only[e1,e2,if_neg hs]
    have h0:(t==e.1)=false:=by simpa using ht
    rw[h0] at h
    simp only[Bool.false_eq_true,if_false,Option.map_eq_some_iff] at h
    obtain⟨j,hj,rfl⟩:=h
    simp only[List.set_cons_succ,List.find?_cons]
    by_cases hs:s=e.1
    ·have e1:(s==e.1)=true:=by simpa using hs
     simp only[e1]
     rw[if_neg (by rw[hs];exact Ne.symm ht)]
    have e1:(s==e.1)=false:=by simpa using hs
    simp only[e1]
    exact ih j hj
  have:=key l i h1
  simp only[hGet]
  rw[this]
  by_cases hs:s=t
  ·subst hs;simp
  rw[if_neg hs,if_neg (by omega)]
theorem Liv{α:Type}{l:List (Nat×α)}{h b:Nat}{x:α}(hl:∀ e∈l,e.1<b):∀ e∈hSet l h x,e.1<b:=by
 unfold hSet
 cases h with
 | zero=>exact hl
 | succ t=>
  simp only
  cases hi:l.findIdx? (fun e=>t==e.1) with
  | none=>exact hl
  | some i=>
   intro e he
   rcases List.mem_or_eq_of_mem_set he with h1 | rfl
   ·exact hl e h1
   obtain⟨h1,h2,_⟩:=lFi.1 hi
   have:=hl _ (List.getElem_mem h1)
   have ht:t=(l[i]).1:=by simpa using h2
   simp only;omega
theorem Liw{α:Type}{l:List (Nat×α)}{h:Nat}{x:α}(hh:hGet l h=some x):∃ t,h=t+1∧(t,x)∈l:=by
 obtain⟨t,i,rfl,_,h2⟩:=Kmo hh
 exact⟨t,rfl,mOg h2⟩
theorem Lix{α:Type}{l:List (Nat×α)}{h b:Nat}{x:α}(hl:∀ e∈l,e.1<b)(hh:hGet l h=some x):h≠b+1:=by
 obtain⟨t,rfl,hm⟩:=Liw hh
 have:=hl _ hm
 simp only at this;omega
section
variable{K V W:Type}[BEq K][LawfulBEq K][KLt K][KOrd K]
theorem Liy(f:V→W)(m:List (K×V))(k:K):mGet (m.map fun e=>(e.1,f e.2)) k=(mGet m k).map f:=by
 induction m with
 | nil=>rfl
 | cons e m ih=>
  simp only[List.map_cons,Ktu,ih]
  cases k==e.1<;>rfl
theorem SM.map{f:V→W}{m:List (K×V)}(h:SM m):SM (m.map fun e=>(e.1,f e.2)):=List.pairwise_map.2 h
theorem Liz(f:V→W){m:List (K×V)}(h:SM m)(k:K)(v:V):(mSet m k v).map (fun e=>(e.1,f e.2))=mSet (m.map fun e=>(e.1,f e.2)) k (f v):=
 SM.ext (h.set k v).map (h.map.set k (f v)) fun k'=>by
  rw[Liy,Kua,Kua,Liy]
  cases k'==k<;>rfl
end
section
variable{X:Type}
def absH(x0:X)(ar:List (Nat×X))(m:List (Str×Nat)):List (Str×X):=m.map fun e=>(e.1,(hGet ar e.2).getD x0)
structure HOk(ar:List (Nat×X))(m:List (Str×Nat)):Prop where
 sm:SM m
 ok:∀ k h,mGet m k=some h→∃ x,hGet ar h=some x
 inj:∀ k k' h,mGet m k=some h→mGet m k'=some h→k=k'
theorem Lja(x0:X)(ar:List (Nat×X))(m:List (Str×Nat))(k:Str):mGet (absH x0 ar m) k=(mGet m k).map fun h=>(hGet ar h).getD x0:=Liy (fun h=>(hGet ar h).getD x0) m k
theorem Ljb(x0:X)(ar:List (Nat×X)){m:List (Str×Nat)}(h:SM m):SM (absH x0 ar m):=SM.map (f:=fun h=>(hGet ar h).getD x0) h
theorem HOk.nil{ar:List (Nat×X)}:HOk ar []:=⟨SM.nil,(fun k h e=>by cases e),(fun k k' h e _=>by cases e)⟩
theorem HOk.at(x0:X){ar:List (Nat×X)}{m:List (Str×Nat)}(h:HOk ar m)(k:Str):(mGet (absH x0 ar m) k=none∧(mGet m k).getD 0=0)∨∃ a x,mGet (absH x0 ar m) k=some x∧mGet m k=some a∧(mGet m k).getD 0=a∧hGet ar a=some x∧0<a:=by
 rw[Lja]
 cases hm:mGet m k with
 | none=>exact .inl ⟨rfl,rfl⟩
 | some a=>
  obtain⟨x,hx⟩:=h.ok k a hm
  exact .inr ⟨a,x,by rw[Option.map_some,hx];rfl,rfl,rfl,hx,Kmz hx⟩
theorem HOk.set(x0:X){ar:List (Nat×X)}{m:List (Str×Nat)}(h:HOk ar m){k:Str}{a:Nat}(hm:mGet m k=some a)(x:X):HOk (hSet ar a x) m∧absH x0 (hSet ar a x) m=mSet (absH x0 ar m) k x:=by
 obtain⟨y,hy⟩:=h.ok k a hm
 refine⟨⟨h.sm,fun k' a' hk=>?_,h.inj⟩,SM.ext (Ljb x0 _ h.sm) ((Ljb x0 _ h.sm).set k x) fun k'=>?_⟩
 ·obtain⟨z,hz⟩:=h.ok k' a' hk
  rw[Liu _ _ _ _ _ hy]
  by_cases e:a'=a
  ·exact⟨x,by rw[if_pos e]⟩
  exact⟨z,by rw[if_neg e];exact hz⟩
 have e1:mGet (absH x0 (hSet ar a x) m) k'=_:=Lja x0 (hSet ar a x) m k'
 have e2:mGet (mSet (absH x0 ar m) k x) k'=_:=Kua _ _ _ _
 refine e1.trans (Eq.trans ?_ e2.symm)
 rw[Lja]
 by_cases hk:k'=k
 ·subst hk
  simp only[beq_self_eq_true,if_true,hm,Option.map_some,Liu _ _ _ _ _ hy]
  rfl
 have:(k'==k)=false:=by simpa using hk
 rw[this]
 simp only[Bool.false_eq_true,if_false]
 cases hk':mGet m k' with
 | none=>rfl
 | some a'=>
  have hne:a'≠a:=fun e=>hk (h.inj k' k a' hk' (e▸hm))
  simp only[Option.map_some,Liu _ _ _ _ _ hy,if_neg hne]
theorem HOk.new(x0:X){ar:List (Nat×X)}{m:List (Str×Nat)}{b:Nat}(h:HOk ar m)(hb:∀ e∈ar,e.1<b)(k:Str)(x:X)(hk:mGet m k=none):HOk ((b,x) :: ar) (mSet m k (b+1))∧absH x0 ((b,x) :: ar) (mSet m k (b+1))=mSet (absH x0 ar m) k x:=by
 have old:∀ k' a,mGet m k'=some a→a≠b+1∧hGet ((b,x) :: ar) a=hGet ar a:=fun k' a ha=>by
  obtain⟨y,hy⟩:=h.ok k' a ha
  have:=Lix hb hy
  exact⟨this,Lis _ _ _ _ this⟩
 refine⟨⟨h.sm.set _ _,fun k' a' hg=>?_,fun k1 k2 a' h1 h2=>?_⟩,SM.ext (Ljb x0 _ (h.sm.set _ _)) ((Ljb x0 _ h.sm).set k x) fun k'=>?_⟩
 ·rw[Kua] at hg
  split at hg
  ·cases hg;exact⟨x,Lir _ _ _⟩
  rw[(old k' a' hg).2];exact h.ok k' a' hg
 ·rw[Kua] at h1 h2
  split at h1<;>split at h2
  ·rename_i q1 q2;rw[beq_iff_eq.1 q1,beq_iff_eq.1 q2]
  ·cases h1;exact absurd rfl (old k2 _ h2).1
  ·cases h2;exact absurd rfl (old k1 _ h1).1
  exact h.inj k1 k2 a' h1 h2
 have e1:mGet (absH x0 ((b,x) :: ar) (mSet m k (b+1))) k'=_:=Lja x0 _ _ k'
 have e2:mGet (mSet (absH x0 ar m) k x) k'=_:=Kua _ _ _ _
 refine e1.trans (Eq.trans ?_ e2.symm)
 rw[Lja,Kua]
 cases hq:k'==k with
 | true=>simp only[if_true,Option.map_some,Lir];rfl
 | false=>
  simp only[Bool.false_eq_true,if_false]
  cases hk':mGet m k' with
  | none=>rfl
  | some a'=>simp only[Option.map_some,(old k' a' hk').2]
theorem Ljc(x0:X)(ar:List (Nat×X))(m:List (Str×Nat)):(absH x0 ar m).length=m.length:=List.length_map ..
end
section
variable{X Q:Type}
structure RX(x0:X)(vw:X→Q)(tg:X→Nat)(al:List Bool)(ar:List (Nat×X))(m:List (Str×Nat))(S:List (Str×Q)):Prop where
 h:HOk ar m
 s:S=(absH x0 ar m).map fun e=>(e.1,vw e.2)
 fr:∀ e∈ar,e.1<al.length
 lv:∀ k x,mGet (absH x0 ar m) k=some x→tg x=1∨∃ t,tg x=t+2∧al[t]?=some true
 ds:∀ k k' x x',mGet (absH x0 ar m) k=some x→mGet (absH x0 ar m) k'=some x'→k≠k'→tg x=tg x'→tg x=1
variable{x0:X}{vw:X→Q}{tg:X→Nat}{al:List Bool}{ar:List (Nat×X)}{m:List (Str×Nat)}{S:List (Str×Q)}
theorem RX.nil(hf:∀ e∈ar,e.1<al.length):RX x0 vw tg al ar [] []:=⟨HOk.nil,rfl,hf,(fun k x e=>by cases e),(fun k k' x x' e=>by cases e)⟩
theorem RX.sm(h:RX x0 vw tg al ar m S):SM S:=by
 rw[h.s]
 exact SM.map (f:=vw) (Ljb x0 ar h.h.sm)
theorem RX.get(h:RX x0 vw tg al ar m S)(k:Str):mGet S k=(mGet (absH x0 ar m) k).map vw:=by
 rw[h.s]
 exact Liy vw _ k
theorem RX.at(h:RX x0 vw tg al ar m S)(k:Str):(mGet S k=none∧mGet m k=none∧(mGet m k).getD 0=0)∨∃ a x,mGet S k=some (vw x)∧mGet (absH x0 ar m) k=some x∧mGet m k=some a∧(mGet m k).getD 0=a∧hGet ar a=some x∧0<a:=by
 rcases h.h.at x0 k with⟨h1,h2⟩ | ⟨a,x,h1,h2,h3,h4,h5⟩
 ·refine .inl ⟨by rw[h.get,h1];rfl,?_,h2⟩
  rw[Lja] at h1
  cases hm:mGet m k with
  | none=>rfl
  | some a=>rw[hm] at h1;cases h1
 exact .inr ⟨a,x,by rw[h.get,h1];rfl,h1,h2,h3,h4,h5⟩
theorem RX.new(h:RX x0 vw tg al ar m S){k:Str}(hk:mGet m k=none){x:X}(ht:tg x=1):RX x0 vw tg (al++[false]) ((al.length,x) :: ar) (mSet m k (al.length+1)) (mSet S k (vw x)):=by
 obtain⟨h1,h2⟩:=h.h.new x0 h.fr k x hk
 have hg:∀ k',mGet (absH x0 ((al.length,x) :: ar) (mSet m k (al.length+1))) k'=if k'==k then some x else mGet (absH x0 ar m) k':=fun k'=>by rw[h2,Kua]
 refine⟨h1,?_,fun e he=>?_,fun k' x' hx=>?_,fun k1 k2 x1 x2 g1 g2 hne he=>?_⟩
 ·rw[h2,h.s]
  exact(Liz vw (Ljb x0 ar h.h.sm) k x).symm
 ·rw[List.length_append,List.length_singleton]
  rcases List.mem_cons.1 he with rfl | he
  ·exact Nat.lt_succ_self _
  have:=h.fr e he;omega
 ·rw[hg] at hx
  split at hx
  ·cases hx;exact .inl ht
  rcases h.lv k' x' hx with h3 | ⟨t,h3,h4⟩
  ·exact .inl h3
  exact .inr ⟨t,h3,by rw[gAl (gEs.1 h4).1];exact h4⟩
 rw[hg] at g1 g2
 split at g1
 ·cases g1;exact ht
 split at g2
 ·cases g2;exact he.trans ht
 exact h.ds k1 k2 x1 x2 g1 g2 hne he
theorem RX.put(h:RX x0 vw tg al ar m S){k:Str}{a:Nat}{x x':X}(hm:mGet m k=some a)(hx:mGet (absH x0 ar m) k=some x)(ht:tg x'=tg x):RX x0 vw tg al (hSet ar a x') m (mSet S k (vw x')):=by
 obtain⟨h1,h2⟩:=h.h.set x0 hm x'
 have hg:∀ k',mGet (absH x0 (hSet ar a x') m) k'=if k'==k then some x' else mGet (absH x0 ar m) k':=fun k'=>by rw[h2,Kua]
 have old:∀ k' y,mGet (absH x0 (hSet ar a x') m) k'=some y→∃ z,mGet (absH x0 ar m) k'=some z∧tg y=tg z:=fun k' y hy=>by
  rw[hg] at hy
  split at hy
  ·rename_i q
   cases hy
   rw[beq_iff_eq.1 q]
   exact⟨x,hx,ht⟩
  exact⟨y,hy,rfl⟩
 refine⟨h1,?_,Liv h.fr,fun k' y hy=>?_,fun k1 k2 x1 x2 g1 g2 hne he=>?_⟩
 ·rw[h2,h.s]
  exact(Liz vw (Ljb x0 ar h.h.sm) k x').symm
 ·obtain⟨z,h3,h4⟩:=old k' y hy
  rw[h4];exact h.lv k' z h3
 obtain⟨z1,h3,h4⟩:=old k1 x1 g1
 obtain⟨z2,h5,h6⟩:=old k2 x2 g2
 rw[h4]
 exact h.ds k1 k2 z1 z2 h3 h5 hne (by rw[←h4,←h6];exact he)
theorem RX.app{β:Type}(h:RX x0 vw tg al ar m S){k:Str}{a:Nat}{x:X}(hm:mGet m k=some a)(hx:mGet (absH x0 ar m) k=some x)(l:List β)(hl:l.length≤1000000)(b:β) :
  ∃ al',appT al (tg x,l) [b]=some ((al.length+2,l++[b]),al')∧(∀ i,i<al.length→i<al'.length)∧∀ x',tg x'=al.length+2→RX x0 vw tg al' (hSet ar a x') m (mSet S k (vw x')):=by
 have fin:∀ al0:List Bool,al0.length=al.length→(∀ k' y,k'≠k→mGet (absH x0 ar m) k'=some y→tg y=1∨∃ t,tg y=t+2∧al0[t]?=some true)→
   ∀ x',tg x'=al.length+2→RX x0 vw tg (al0++[true]) (hSet ar a x') m (mSet S k (vw x')):=by
  intro al0 h0 hlv x' ht
  obtain⟨h1,h2⟩:=h.h.set x0 hm x'
  have hg:∀ k',mGet (absH x0 (hSet ar a x') m) k'=if k'==k then some x' else mGet (absH x0 ar m) k':=fun k'=>by rw[h2,Kua]
  have hno:∀ k' y,k'≠k→mGet (absH x0 ar m) k'=some y→tg y≠al.length+2:=fun k' y hne hy e=>by
   rcases hlv k' y hne hy with h3 | ⟨t,h3,h4⟩
   ·omega
   ·have:=(gEs.1 h4).1
    omega
  refine⟨h1,?_,fun e he=>?_,fun k' y hy=>?_,fun k1 k2 x1 x2 g1 g2 hne he=>?_⟩
  ·rw[h2,h.s]
   exact(Liz vw (Ljb x0 ar h.h.sm) k x').symm
  ·have:=Liv h.fr e he
   rw[List.length_append,List.length_singleton,h0]
   omega
  ·rw[hg] at hy
   split at hy
   ·cases hy
    exact .inr ⟨al.length,ht,by rw[←h0];simp⟩
   ·rename_i q
    rcases hlv k' y (fun e=>q (by simpa using e)) hy with h3 | ⟨t,h3,h4⟩
    ·exact .inl h3
    ·exact .inr ⟨t,h3,by rw[gAl (gEs.1 h4).1];exact h4⟩
  ·rw[hg] at g1 g2
   split at g1
   ·cases g1
    split at g2
    ·rename_i q1 q2
     exact absurd ((beq_iff_eq.1 q1).trans (beq_iff_eq.1 q2).symm) hne
    ·rename_i q1 q2
     exact absurd (he.symm.trans ht) (hno k2 x2 (fun e=>q2 (by simpa using e)) g2)
   ·rename_i q1
    split at g2
    ·cases g2
     exact absurd (he.trans ht) (hno k1 x1 (fun e=>q1 (by simpa using e)) g1)
    ·exact h.ds k1 k2 x1 x2 g1 g2 hne he
 unfold appT
 rw[Kux (by simp;omega),bi_some,show([b]:List β).isEmpty=false from rfl,cond_false]
 rcases h.lv k x hx with h1 | ⟨t,h1,h2⟩
 ·rw[h1]
  refine⟨al++[true],rfl,fun i hi=>by simp;omega,fin al rfl fun k' y hne hy=>?_⟩
  exact h.lv k' y hy
 ·rw[h1]
  simp only[h2,Option.getD_some,cond_true]
  refine⟨_,rfl,fun i hi=>by simp;omega,fin (al.set t false) (by simp) fun k' y hne hy=>?_⟩
  rcases h.lv k' y hy with h3 | ⟨t',h3,h4⟩
  ·exact .inl h3
  ·refine .inr ⟨t',h3,?_⟩
   have htt:t≠t':=fun e=>by
    subst e
    have:=h.ds k' k y x hy hx hne (h3.trans h1.symm)
    omega
   rw[gSn htt]
   exact h4
theorem RX.more(h:RX x0 vw tg al ar m S){al':List Bool}(hl:al.length≤al'.length)(ha:∀ t:Nat,al[t]?=some true→al'[t]?=some true):RX x0 vw tg al' ar m S:=
 ⟨h.h,h.s,fun e he=>nLl (h.fr e he) hl,fun k x hx=>by
  rcases h.lv k x hx with h1 | ⟨t,h1,h2⟩
  ·exact .inl h1
  exact .inr ⟨t,h1,ha t h2⟩,h.ds⟩
end
end Go.Gk
namespace Go.Gk
theorem Lgi{α ρ:Type}(p:α→Bool)(g:Nat→α→ρ){f:Nat→α→Unit→Option (LS Unit ρ)}(hf:∀ i x,f i x ()=bif p x then some (.out (g i x)) else some (.go ())):∀ (l:List α) (i:Nat),
  (l.find? p=none∧rangeM f i l ()=some (.go ()))∨∃ j x,l[j]?=some x∧l.find? p=some x∧p x=true∧rangeM f i l ()=some (.out (g (i+j) x))
 | [],i=>.inl ⟨rfl,rfl⟩
 | x :: l,i=>by
  cases hp:p x with
  | true=>exact .inr ⟨0,x,rfl,by simp[hp],hp,by simp[rangeM,hf,hp]⟩
  | false=>
   have e:rangeM f i (x :: l) ()=rangeM f (i+1) l ():=by simp[rangeM,hf,hp]
   rcases Lgi p g hf l (i+1) with⟨h1,h2⟩ | ⟨j,y,h1,h2,h3,h4⟩
   ·exact .inl ⟨by simp[hp,h1],by rw[e,h2]⟩
   ·exact .inr ⟨j+1,y,h1,by simp[hp,h2],h3,by rw[e,h4];congr 3;omega⟩
theorem Lle(l:List Str)(v:Str):Kxt l v=some (l.contains v):=by
 unfold Kxt Kxs
 rcases Lgi (fun x:Str=>(v:Str)==x) (fun i _=>(i:Int)) (f:=fun i1 x3 s2=>bif (v:Str)==x3 then(bi (some (i1:Int)) fun v=>some (.out v)) else(some (.go ()))) (fun i x=>rfl) l 0 with⟨h1,h2⟩ | ⟨j,x,h1,h2,h3,h4⟩
 ·rw[h2]
  have:l.contains v=false:=by
   rw[←Bool.not_eq_true,List.contains_iff_mem]
   intro hm
   have:=List.find?_eq_none.1 h1 v hm
   simp at this
  rw[this];rfl
 rw[h4]
 have hv:v=x:=by simpa using h3
 have:l.contains v=true:=by rw[List.contains_iff_mem,hv];exact mOg h1
 rw[this,Nat.zero_add]
 simp
structure Rq where
 key:Str
 wer:Str
 node:Str
 post:Str
 beg:Int
 long:Int
 acc:Kwf
 yes:List Str
 den:Bool
 giv:Bool
 von:Int
 bis:Int
abbrev zAcc:Kwf:=⟨[],[],0,0,0⟩
def accF(R:List Kwf)(p:Str):Option Kwf:=R.find? fun x=>(x.Posture:Str)==p
def vwP(q:Kwj):Rq:=⟨q.asked.Key,q.asked.By,q.asked.Node,q.asked.Posture,q.asked.At,q.asked.Long,q.access,q.yes.2,q.denied,q.given,q.v_from,q.to⟩
def tgP(q:Kwj):Nat:=q.yes.1
def zP:Kwj:=⟨⟨0,[],[],0,[],[],0⟩,zAcc,(1,[]),false,false,0,0⟩
def vwW(R:List Kwf)(w:Kwn):Rq:=⟨w.Request.Key,w.Request.By,w.Request.Node,w.Request.Posture,w.asked,w.long,(accF R w.Request.Posture).getD zAcc,w.yes.2,w.denied,w.given,w.Request.From,w.Request.To⟩
def tgW(w:Kwn):Nat:=w.yes.1
def zW:Kwn:=⟨⟨[],[],[],[],0,0,0,0⟩,0,0,(1,[]),false,false⟩
def Rq.waits(q:Rq)(t:Int):Bool:=!q.den&&(!q.giv&&decide (t<wi (q.beg+q.acc.Wait)))
def Rq.may(q:Rq)(b:Str):Bool:=q.acc.Approvers.contains b||(b:Str)==q.wer
def agreeQ(q:Rq)(a:Kwg):Rq:=
 bif ((q.yes++[a.By]).length:Int)==q.acc.Need then⟨q.key,q.wer,q.node,q.post,q.beg,q.long,q.acc,q.yes++[a.By],q.den,true,a.At,if wi (a.At+q.long)<345686400 then wi (a.At+q.long) else 345686400⟩
 else⟨q.key,q.wer,q.node,q.post,q.beg,q.long,q.acc,q.yes++[a.By],q.den,q.giv,q.von,q.bis⟩
def stepQ(a:Kwg)(q:Rq):Int×Option Rq:=
 bif (a.Kind:Int)==2 then(bif !(q.waits a.At) then(11,none) else bif !(q.acc.Approvers.contains a.By)||(a.By:Str)==q.wer then(16,none) else bif q.yes.contains a.By then(6,none) else(0,some (agreeQ q a)))
 else bif (a.Kind:Int)==3 then(bif !(q.waits a.At) then(11,none) else bif !(q.may a.By) then(16,none) else(0,some ⟨q.key,q.wer,q.node,q.post,q.beg,q.long,q.acc,q.yes,true,q.giv,q.von,q.bis⟩))
 else(bif !q.giv||decide (a.At≥q.bis) then(11,none) else bif !(q.may a.By) then(16,none) else(0,some ⟨q.key,q.wer,q.node,q.post,q.beg,q.long,q.acc,q.yes,q.den,q.giv,q.von,a.At⟩))
def putQ(S:List (Str×Rq))(k:Str)(r:Int×Option Rq):Int×List (Str×Rq):=(r.1,match r.2 with | none=>S | some q=>mSet S k q)
def stepS(R:List Kwf)(a:Kwg)(S:List (Str×Rq)):Int×List (Str×Rq):=
 bif (a.Kind:Int)==1 then(match mGet S a.Key with
  | some _=>(6,S)
  | none=>match accF R a.Posture with
   | none=>(8,S)
   | some x=>bif decide ((a.Long:Int)>x.Most) then(16,S) else(0,mSet S a.Key ⟨a.Key,a.By,a.Node,a.Posture,a.At,a.Long,x,[],false,false,0,0⟩))
 else match mGet S a.Key with
  | none=>(8,S)
  | some q=>putQ S a.Key (stepQ a q)
def Few(S:List (Str×Rq)):Prop:=∀ k q,mGet S k=some q→q.yes.length≤900000
abbrev RP:=RX zP vwP tgP
abbrev RW(R:List Kwf):=RX zW (vwW R) tgW
section
variable{R:List Kwf}{al:List Bool}{ar:List (Nat×Kwj)}{m:List (Str×Nat)}{S:List (Str×Rq)}{ar2:List (Nat×Kwn)}
theorem Lgj{a:Nat}{x:Kwj}(h:hGet ar a=some x)(hp:0<a)(b:Str):Kxu a b (al,ar,ar2)=some (x.access.Approvers.contains b):=by
 unfold Kxu
 simp only[show Nat.blt 0 a=true by simpa [Nat.blt_eq] using hp,gd_true,h,bi_some,Lle]
theorem Lgk{a:Nat}{x:Kwj}(h:hGet ar a=some x)(hp:0<a)(t:Int):Kxv a t (al,ar,ar2)=some ((vwP x).waits t):=by
 unfold Kxv
 simp only[show Nat.blt 0 a=true by simpa [Nat.blt_eq] using hp,gd_true,h,bi_some]
 cases hd:x.denied<;>cases hg:x.given<;>simp[Rq.waits,vwP,hd,hg,bi_some]
theorem Lgl(h:RP al ar m S)(a:Kwg)(h1:(a.Kind==1)=true) :
  ∃ al' ar' m',Kxr ⟨R,m⟩ ((mGet m a.Key).getD 0) a (al,ar,ar2)=some ((stepS R a S).1,⟨R,m'⟩,(al',ar',ar2))∧RP al' ar' m' (stepS R a S).2∧al.length≤al'.length:=by
 unfold Kxr stepS
 rw[h1]
 simp only[cond_true]
 rcases h.at a.Key with⟨g1,g2,g3⟩ | ⟨n,x,g1,g2,g3,g4,g5,g6⟩
 ·rw[g1,g3]
  simp only[beq_self_eq_true,Bool.not_true,cond_false]
  unfold Kxq Kxp
  rcases Lgi (fun x:Kwf=>(x.Posture:Str)==a.Posture) (fun i _=>(i:Int)) (f:=fun i1 x3 s2=>bi (some ((x3.Posture:Str)==a.Posture)) fun y12=>bif y12 then(bi (some (i1:Int)) fun v=>some (.out v)) else(some (.go ()))) (fun i x=>rfl) R 0 with⟨e1,e2⟩ | ⟨j,x,e1,e2,e3,e4⟩
  ·rw[show accF R a.Posture=none from e1,e2]
   exact⟨al,ar,m,rfl,h,Nat.le_refl _⟩
  ·rw[show accF R a.Posture=some x from e2,e4]
   simp only[bi_some,goI_out,Nat.zero_add,decide_eq_false (show ¬ ((j:Int)<0) by omega),cond_false,Kvu e1]
   cases hL:decide ((a.Long:Int)>x.Most) with
   | true=>exact⟨al,ar,m,rfl,h,Nat.le_refl _⟩
   | false=>
    simp only[cond_false]
    exact⟨_,_,_,rfl,h.new g2 (x:=⟨a,x,(1,[]),false,false,0,0⟩) rfl,by simp⟩
 ·rw[g1,g4]
  simp only[show((n:Nat)==0)=false by simp;omega,Bool.not_false,cond_true]
  exact⟨al,ar,m,rfl,h,Nat.le_refl _⟩
theorem Lgm(h:RP al ar m S)(hy:Few S)(a:Kwg)(h2:(a.Kind==2)=true){n:Nat}{x:Kwj}(g1:mGet S a.Key=some (vwP x))(g2:mGet (absH zP ar m) a.Key=some x)(g3:mGet m a.Key=some n)(g5:hGet ar n=some x)(g6:0<n) :
  ∃ al' ar',Kxw n a (al,ar,ar2)=some ((stepQ a (vwP x)).1,(al',ar',ar2))∧RP al' ar' m (putQ S a.Key (stepQ a (vwP x))).2∧al.length≤al'.length:=by
 have hb:Nat.blt 0 n=true:=by simpa [Nat.blt_eq] using g6
 unfold Kxw stepQ
 rw[Lgk g5 g6,Lgj g5 g6]
 simp only[bi_some,h2,cond_true]
 cases hw:(vwP x).waits a.At with
 | false=>exact⟨al,ar,rfl,h,Nat.le_refl _⟩
 | true=>
  simp only[Bool.not_true,cond_false,hb,gd_true,g5,bi_some]
  have e16:(bif !x.access.Approvers.contains a.By then some true else some ((a.By:Str)==x.asked.By))=some (!((vwP x).acc.Approvers.contains a.By)||(a.By:Str)==(vwP x).wer):=by
   show(bif !x.access.Approvers.contains a.By then some true else some ((a.By:Str)==x.asked.By))=some (!(x.access.Approvers.contains a.By)||(a.By:Str)==x.asked.By)
   cases x.access.Approvers.contains a.By<;>rfl
  rw[e16]
  simp only[bi_some]
  cases hm : !((vwP x).acc.Approvers.contains a.By)||(a.By:Str)==(vwP x).wer with
  | true=>exact⟨al,ar,rfl,h,Nat.le_refl _⟩
  | false=>
   simp only[cond_false,Lle,bi_some]
   rw[show(vwP x).yes=x.yes.2 from rfl]
   cases hc:x.yes.2.contains a.By with
   | true=>exact⟨al,ar,rfl,h,Nat.le_refl _⟩
   | false=>
    simp only[cond_false]
    obtain⟨al',k1,k2,k3⟩:=h.app g3 g2 x.yes.2 (by have:=hy _ _ g1;have e:(vwP x).yes=x.yes.2:=rfl;rw[e] at this;omega) a.By
    rw[show(x.yes:Tl Str)=(tgP x,x.yes.2) from rfl,k1]
    have hs:∀ y,hGet (hSet ar n y) n=some y:=fun y=>by rw[Liu _ _ _ _ _ g5,if_pos rfl]
    have hss:∀ y z,hGet (hSet (hSet ar n y) n z) n=some z:=fun y z=>by rw[Liu _ _ _ _ _ (hs y),if_pos rfl]
    have hsss:∀ y z u,hGet (hSet (hSet (hSet ar n y) n z) n u) n=some u:=fun y z u=>by rw[Liu _ _ _ _ _ (hss y z),if_pos rfl]
    simp only[bi_some,hs,hss,hsss]
    have hle:al.length≤al'.length:=by
     rcases Nat.eq_zero_or_pos al.length with e | e
     ·omega
     ·have:=k2 (al.length - 1) (by omega);omega
    have hset2:∀ y z,hSet (hSet ar n y) n z=hSet ar n z:=fun y z=>by
     obtain⟨t,i,rfl,e1,e2⟩:=Kmo g5
     have hi:i<ar.length:=(gEs.1 e2).1
     have f1:hSet ar (t+1) y=ar.set i (t,y):=by simp only[hSet,e1]
     have f2:(ar.set i (t,y)).findIdx? (fun e=>t==e.1)=some i:=by
      rw[lFi] at e1 ⊢
      obtain⟨q1,q2,q3⟩:=e1
      refine⟨by simpa using q1,by simp,fun j hj=>?_⟩
      rw[List.getElem_set_ne (by omega)]
      exact q3 j hj
     rw[f1]
     simp only[hSet,f2,e1,List.set_set]
    simp only[hset2]
    have hag:agreeQ (vwP x) a=bif ((x.yes.2++[a.By]).length:Int)==x.access.Need then vwP ⟨x.asked,x.access,(al.length+2,x.yes.2++[a.By]),x.denied,true,a.At,if wi (a.At+x.asked.Long)<345686400 then wi (a.At+x.asked.Long) else 345686400⟩ else vwP ⟨x.asked,x.access,(al.length+2,x.yes.2++[a.By]),x.denied,x.given,x.v_from,x.to⟩:=rfl
    rw[show(putQ S a.Key (0,some (agreeQ (vwP x) a))).2=mSet S a.Key (agreeQ (vwP x) a) from rfl,hag]
    cases hN:((x.yes.2++[a.By]).length:Int)==x.access.Need with
    | true=>exact⟨al',_,rfl,k3 _ rfl,hle⟩
    | false=>exact⟨al',_,rfl,k3 _ rfl,hle⟩
theorem Lgn(h:RP al ar m S)(hy:Few S)(a:Kwg) :
  ∃ al' ar' m',Kxx ⟨R,m⟩ a (al,ar,ar2)=some ((stepS R a S).1,⟨R,m'⟩,(al',ar',ar2))∧RP al' ar' m' (stepS R a S).2∧al.length≤al'.length:=by
 unfold Kxx
 cases h1:(a.Kind:Int)==1 with
 | true=>
  obtain⟨al',ar',m',e1,e2,e3⟩:=Lgl (R:=R) (ar2:=ar2) h a h1
  refine⟨al',ar',m',?_,e2,e3⟩
  simp only[cond_true,e1,bi_some]
 | false=>
  unfold stepS
  rw[h1]
  simp only[cond_false]
  rcases h.at a.Key with⟨g1,g2,g3⟩ | ⟨n,x,g1,g2,g3,g4,g5,g6⟩
  ·rw[g1,g3]
   exact⟨al,ar,m,rfl,h,Nat.le_refl _⟩
  ·have hb:Nat.blt 0 n=true:=by simpa [Nat.blt_eq] using g6
   rw[g1,g4]
   simp only[show((n:Nat)==0)=false by simp;omega,cond_false,Lgj g5 g6,bi_some,hb,gd_true,g5]
   have eM:(bif x.access.Approvers.contains a.By then some true else some ((a.By:Str)==x.asked.By))=some ((vwP x).may a.By):=by
    show _=some (x.access.Approvers.contains a.By||(a.By:Str)==x.asked.By)
    cases x.access.Approvers.contains a.By<;>rfl
   rw[eM]
   simp only[bi_some]
   cases h2:(a.Kind:Int)==2 with
   | true=>
    obtain⟨al',ar',e1,e2,e3⟩:=Lgm (ar2:=ar2) h hy a h2 g1 g2 g3 g5 g6
    refine⟨al',ar',m,?_,e2,e3⟩
    simp only[cond_true,e1,bi_some,orI_inr]
    rfl
   | false=>
    cases h3:(a.Kind:Int)==3 with
    | true=>
     simp only[cond_false,cond_true,Lgk g5 g6,bi_some]
     unfold stepQ
     rw[h2,h3]
     simp only[cond_false,cond_true]
     cases hw:(vwP x).waits a.At with
     | false=>exact⟨al,ar,m,rfl,h,Nat.le_refl _⟩
     | true=>
      cases hm:(vwP x).may a.By with
      | false=>exact⟨al,ar,m,rfl,h,Nat.le_refl _⟩
      | true=>
       exact⟨al,_,m,rfl,h.put (x':=⟨x.asked,x.access,x.yes,true,x.given,x.v_from,x.to⟩) g3 g2 rfl,Nat.le_refl _⟩
    | false=>
     simp only[cond_false]
     have eG:(bif !x.given then some true else some (decide (a.At≥x.to)))=some (!(vwP x).giv||decide (a.At≥(vwP x).bis)):=by
      show _=some (!x.given||decide (a.At≥x.to))
      cases x.given<;>rfl
     rw[eG]
     simp only[bi_some]
     unfold stepQ
     rw[h2,h3]
     simp only[cond_false]
     cases hg : !(vwP x).giv||decide (a.At≥(vwP x).bis) with
     | true=>exact⟨al,ar,m,rfl,h,Nat.le_refl _⟩
     | false=>
      cases hm:(vwP x).may a.By with
      | false=>exact⟨al,ar,m,rfl,h,Nat.le_refl _⟩
      | true=>
       exact⟨al,_,m,rfl,h.put (x':=⟨x.asked,x.access,x.yes,x.denied,x.given,x.v_from,a.At⟩) g3 g2 rfl,Nat.le_refl _⟩
end
end Go.Gk
namespace Go.Gk
theorem Llf(R:List Kwf)(m:List (Str×Nat))(p:Str):Kyx ⟨R,m⟩ p=some ((accF R p).getD zAcc,(accF R p).isSome):=by
 unfold Kyx
 rcases Lgi (fun x:Kwf=>(x.Posture:Str)==p) (fun _ x=>(x,true)) (f:=fun i1 x3 s2=>bif (x3.Posture:Str)==p then(bi (some (x3,true)) fun v=>some (.out v)) else(some (.go ()))) (fun i x=>rfl) R 0 with⟨e1,e2⟩ | ⟨j,x,e1,e2,e3,e4⟩
 ·rw[show accF R p=none from e1]
  show bi (rangeM _ 0 R ()) _=_
  rw[e2];rfl
 rw[show accF R p=some x from e2]
 show bi (rangeM _ 0 R ()) _=_
 rw[e4];rfl
section
variable{R:List Kwf}{al:List Bool}{ar:List (Nat×Kwn)}{m:List (Str×Nat)}{S:List (Str×Rq)}{ar1:List (Nat×Kwj)}
theorem Lgo{α:Type}{ar:List (Nat×α)}{n:Nat}{x:α}(g5:hGet ar n=some x)(y z:α):hSet (hSet ar n y) n z=hSet ar n z:=by
 obtain⟨t,i,rfl,e1,e2⟩:=Kmo g5
 have hi:i<ar.length:=(gEs.1 e2).1
 have f1:hSet ar (t+1) y=ar.set i (t,y):=by simp only[hSet,e1]
 have f2:(ar.set i (t,y)).findIdx? (fun e=>t==e.1)=some i:=by
  rw[lFi] at e1 ⊢
  obtain⟨q1,q2,q3⟩:=e1
  refine⟨by simpa using q1,by simp,fun j hj=>?_⟩
  rw[List.getElem_set_ne (by omega)]
  exact q3 j hj
 rw[f1]
 simp only[hSet,f2,e1,List.set_set]
theorem Do_ok(h:RW R al ar m S)(hy:Few S)(a:Kwg)(hk:a.Kind=1∨a.Kind=2∨a.Kind=3∨a.Kind=4) :
  ∃ al' ar' m',Kyy ⟨R,m⟩ a (al,ar1,ar)=some ((stepS R a S).1,⟨R,m'⟩,(al',ar1,ar'))∧RW R al' ar' m' (stepS R a S).2∧al.length≤al'.length:=by
 unfold Kyy stepS
 cases h1:(a.Kind:Int)==1 with
 | true=>
  simp only[cond_true,Llf,bi_some]
  rcases h.at a.Key with⟨g1,g2,g3⟩ | ⟨n,x,g1,g2,g3,g4,g5,g6⟩
  ·rw[g1,g3]
   simp only[beq_self_eq_true,Bool.not_true,cond_false]
   cases hx:accF R a.Posture with
   | none=>exact⟨al,ar,m,rfl,h,Nat.le_refl _⟩
   | some x=>
    simp only[Option.isSome_some,Bool.not_true,cond_false,Option.getD_some]
    cases hL:decide ((a.Long:Int)>x.Most) with
    | true=>exact⟨al,ar,m,rfl,h,Nat.le_refl _⟩
    | false=>
     have:=h.new g2 (x:=⟨⟨a.Key,a.By,a.Node,a.Posture,0,0,0,0⟩,a.At,a.Long,(1,[]),false,false⟩) rfl
     refine⟨_,_,_,rfl,?_,by simp⟩
     have e:vwW R ⟨⟨a.Key,a.By,a.Node,a.Posture,0,0,0,0⟩,a.At,a.Long,(1,[]),false,false⟩=⟨a.Key,a.By,a.Node,a.Posture,a.At,a.Long,x,[],false,false,0,0⟩:=by
      show(⟨_,_,_,_,_,_,(accF R a.Posture).getD zAcc,_,_,_,_,_⟩:Rq)=_
      rw[hx];rfl
     rw[e] at this
     exact this
  ·rw[g1,g4]
   simp only[show((n:Nat)==0)=false by simp;omega,Bool.not_false,cond_true]
   exact⟨al,ar,m,rfl,h,Nat.le_refl _⟩
 | false=>
  simp only[cond_false]
  rcases h.at a.Key with⟨g1,g2,g3⟩ | ⟨n,x,g1,g2,g3,g4,g5,g6⟩
  ·rw[g1,g3]
   exact⟨al,ar,m,rfl,h,Nat.le_refl _⟩
  ·have hb:Nat.blt 0 n=true:=by simpa [Nat.blt_eq] using g6
   rw[g1,g4]
   simp only[show((n:Nat)==0)=false by simp;omega,cond_false,bi_some,hb,gd_true,g5,Llf,Lle]
   have eW:(bif !x.given then(bif !x.denied then(some (decide ((a.At:Int)<(wi (x.asked+((accF R x.Request.Posture).getD zAcc).Wait))))) else(some false)) else(some false))=some ((vwW R x).waits a.At):=by
    show _=some (!x.denied&&(!x.given&&decide ((a.At:Int)<(wi (x.asked+((accF R x.Request.Posture).getD zAcc).Wait)))))
    cases x.denied<;>cases x.given<;>rfl
   rw[eW]
   simp only[bi_some]
   rcases hk with hk | hk | hk | hk
   ·rw[hk] at h1;cases h1
   ·
    have k2:((a.Kind:Int)==2)=true:=by rw[hk];rfl
    have k4:((a.Kind:Int)==4)=false:=by rw[hk];rfl
    have k3:((a.Kind:Int)==3)=false:=by rw[hk];rfl
    have n4:((a.Kind:Int) != 4)=true:=by rw[hk];rfl
    have n2:((a.Kind:Int) != 2)=false:=by rw[hk];rfl
    unfold stepQ
    simp only[k2,k4,k3,n4,n2,cond_true,cond_false,bi_some,Bool.true_and]
    cases hw:(vwW R x).waits a.At with
    | false=>exact⟨al,ar,m,rfl,h,Nat.le_refl _⟩
    | true=>
     simp only[Bool.not_true,cond_false]
     have e16:(bif !((accF R x.Request.Posture).getD zAcc).Approvers.contains a.By then some true else bif (a.By:Str)==x.Request.By then some true else some false)=some (!((vwW R x).acc.Approvers.contains a.By)||(a.By:Str)==(vwW R x).wer):=by
      show _=some (!((accF R x.Request.Posture).getD zAcc).Approvers.contains a.By||(a.By:Str)==x.Request.By)
      cases ((accF R x.Request.Posture).getD zAcc).Approvers.contains a.By<;>cases (a.By:Str)==x.Request.By<;>rfl
     rw[e16]
     simp only[bi_some]
     cases hm : !((vwW R x).acc.Approvers.contains a.By)||(a.By:Str)==(vwW R x).wer with
     | true=>exact⟨al,ar,m,rfl,h,Nat.le_refl _⟩
     | false=>
      simp only[cond_false,bi_some]
      rw[show(vwW R x).yes=x.yes.2 from rfl]
      cases hc:x.yes.2.contains a.By with
      | true=>exact⟨al,ar,m,rfl,h,Nat.le_refl _⟩
      | false=>
       simp only[cond_false]
       obtain⟨al',c1,c2,c3⟩:=h.app g3 g2 x.yes.2 (by have:=hy _ _ g1;have e:(vwW R x).yes=x.yes.2:=rfl;rw[e] at this;omega) a.By
       rw[show(x.yes:Tl Str)=(tgW x,x.yes.2) from rfl,c1]
       have hs:∀ y,hGet (hSet ar n y) n=some y:=fun y=>by rw[Liu _ _ _ _ _ g5,if_pos rfl]
       have hset2:=Lgo g5
       have hle:al.length≤al'.length:=by
        rcases Nat.eq_zero_or_pos al.length with e | e
        ·omega
        ·have:=c2 (al.length - 1) (by omega);omega
       simp only[bi_some,hs,hset2]
       have hmin:(if wi (a.At+x.long)<345686400 then wi (a.At+x.long) else(345686400:Int))=if 345686400<wi (a.At+x.long) then 345686400 else wi (a.At+x.long):=by
        split<;>split<;>omega
       have hag:agreeQ (vwW R x) a=bif ((x.yes.2++[a.By]).length:Int)==((accF R x.Request.Posture).getD zAcc).Need then vwW R ⟨⟨x.Request.Key,x.Request.By,x.Request.Node,x.Request.Posture,x.Request.State,x.Request.Yes,a.At,if wi (a.At+x.long)<345686400 then wi (a.At+x.long) else 345686400⟩,x.asked,x.long,(al.length+2,x.yes.2++[a.By]),x.denied,true⟩ else vwW R ⟨x.Request,x.asked,x.long,(al.length+2,x.yes.2++[a.By]),x.denied,x.given⟩:=rfl
       rw[show(putQ S a.Key (0,some (agreeQ (vwW R x) a))).2=mSet S a.Key (agreeQ (vwW R x) a) from rfl,hag,hmin]
       cases hN:((x.yes.2++[a.By]).length:Int)==((accF R x.Request.Posture).getD zAcc).Need with
       | true=>exact⟨al',_,m,rfl,c3 _ rfl,hle⟩
       | false=>exact⟨al',_,m,rfl,c3 _ rfl,hle⟩
   ·
    have k2:((a.Kind:Int)==2)=false:=by rw[hk];rfl
    have k4:((a.Kind:Int)==4)=false:=by rw[hk];rfl
    have k3:((a.Kind:Int)==3)=true:=by rw[hk];rfl
    have n4:((a.Kind:Int) != 4)=true:=by rw[hk];rfl
    have n2:((a.Kind:Int) != 2)=true:=by rw[hk];rfl
    unfold stepQ
    simp only[k2,k4,k3,n4,n2,cond_true,cond_false,bi_some,Bool.true_and]
    cases hw:(vwW R x).waits a.At with
    | false=>exact⟨al,ar,m,rfl,h,Nat.le_refl _⟩
    | true=>
     simp only[Bool.not_true,cond_false]
     have e16:(bif !((accF R x.Request.Posture).getD zAcc).Approvers.contains a.By then some (!((a.By:Str)==x.Request.By)) else some false)=some (!(vwW R x).may a.By):=by
      show _=some (!(((accF R x.Request.Posture).getD zAcc).Approvers.contains a.By||(a.By:Str)==x.Request.By))
      cases ((accF R x.Request.Posture).getD zAcc).Approvers.contains a.By<;>rfl
     rw[e16]
     simp only[bi_some]
     cases hm:(vwW R x).may a.By with
     | false=>exact⟨al,ar,m,rfl,h,Nat.le_refl _⟩
     | true=>exact⟨al,_,m,rfl,h.put (x':=⟨x.Request,x.asked,x.long,x.yes,true,x.given⟩) g3 g2 rfl,Nat.le_refl _⟩
   ·
    have k2:((a.Kind:Int)==2)=false:=by rw[hk];rfl
    have k4:((a.Kind:Int)==4)=true:=by rw[hk];rfl
    have k3:((a.Kind:Int)==3)=false:=by rw[hk];rfl
    have n4:((a.Kind:Int) != 4)=false:=by rw[hk];rfl
    have n2:((a.Kind:Int) != 2)=true:=by rw[hk];rfl
    unfold stepQ
    simp only[k2,k4,k3,n4,n2,cond_true,cond_false,bi_some,Bool.false_and]
    have eG:(bif !x.given then some true else some (decide (a.At≥x.Request.To)))=some (!(vwW R x).giv||decide (a.At≥(vwW R x).bis)):=by
     show _=some (!x.given||decide (a.At≥x.Request.To))
     cases x.given<;>rfl
    rw[eG]
    simp only[bi_some]
    cases hg : !(vwW R x).giv||decide (a.At≥(vwW R x).bis) with
    | true=>exact⟨al,ar,m,rfl,h,Nat.le_refl _⟩
    | false=>
     simp only[cond_false]
     have e16:(bif !((accF R x.Request.Posture).getD zAcc).Approvers.contains a.By then some (!((a.By:Str)==x.Request.By)) else some false)=some (!(vwW R x).may a.By):=by
      show _=some (!(((accF R x.Request.Posture).getD zAcc).Approvers.contains a.By||(a.By:Str)==x.Request.By))
      cases ((accF R x.Request.Posture).getD zAcc).Approvers.contains a.By<;>rfl
     rw[e16]
     simp only[bi_some]
     cases hm:(vwW R x).may a.By with
     | false=>exact⟨al,ar,m,rfl,h,Nat.le_refl _⟩
     | true=>exact⟨al,_,m,rfl,h.put (x':=⟨⟨x.Request.Key,x.Request.By,x.Request.Node,x.Request.Posture,x.Request.State,x.Request.Yes,x.Request.From,a.At⟩,x.asked,x.long,x.yes,x.denied,x.given⟩) g3 g2 rfl,Nat.le_refl _⟩
end
end Go.Gk
namespace Go.Gk
abbrev SQ:=List (Str×Rq)
def FewN(n:Nat)(S:SQ):Prop:=∀ k q,mGet S k=some q→q.yes.length≤n
theorem FewN.few{n:Nat}{S:SQ}(h:FewN n S)(hn:n≤900000):Few S:=fun k q hq=>Nat.le_trans (h k q hq) hn
theorem FewN.nil(n:Nat):FewN n []:=fun k q h=>by cases h
theorem Lkn{a:Kwg}{q q':Rq}(h:(stepQ a q).2=some q'):q'.yes.length≤q.yes.length+1:=by
 unfold stepQ at h
 cases h2:(a.Kind:Int)==2<;>rw[h2] at h<;>simp only[cond_true,cond_false] at h
 ·cases h3:(a.Kind:Int)==3<;>rw[h3] at h<;>simp only[cond_true,cond_false] at h
  ·cases c1:(!q.giv||decide (a.At≥q.bis))<;>rw[c1] at h<;>simp only[cond_true,cond_false] at h
   ·cases c2:(!q.may a.By)<;>rw[c2] at h<;>simp only[cond_true,cond_false] at h
    ·cases h;simp
    cases h
   cases h
  cases c1:(!q.waits a.At)<;>rw[c1] at h<;>simp only[cond_true,cond_false] at h
  ·cases c2:(!q.may a.By)<;>rw[c2] at h<;>simp only[cond_true,cond_false] at h
   ·cases h;simp
   cases h
  cases h
 cases c1:(!q.waits a.At)<;>rw[c1] at h<;>simp only[cond_true,cond_false] at h
 ·cases c2:(!q.acc.Approvers.contains a.By||(a.By:Str)==q.wer)<;>rw[c2] at h<;>simp only[cond_true,cond_false] at h
  ·cases c3:q.yes.contains a.By<;>rw[c3] at h<;>simp only[cond_true,cond_false] at h
   ·cases h
    unfold agreeQ
    cases ((q.yes++[a.By]).length:Int)==q.acc.Need<;>simp
   cases h
  cases h
 cases h
theorem Lko(R:List Kwf)(a:Kwg)(S:SQ):(stepS R a S).2=S∨(∃ x,(a.Kind==1)=true∧mGet S a.Key=none∧accF R a.Posture=some x∧a.Long≤x.Most∧(stepS R a S).2=mSet S a.Key ⟨a.Key,a.By,a.Node,a.Posture,a.At,a.Long,x,[],false,false,0,0⟩)∨
  ∃ q q',(a.Kind==1)=false∧mGet S a.Key=some q∧(stepQ a q).2=some q'∧(stepS R a S).2=mSet S a.Key q':=by
 unfold stepS
 cases h1:(a.Kind:Int)==1 with
 | true=>
  simp only[cond_true]
  cases hg:mGet S a.Key with
  | some q=>exact .inl rfl
  | none=>
   cases hx:accF R a.Posture with
   | none=>exact .inl rfl
   | some x=>
    simp only
    cases hL:decide ((a.Long:Int)>x.Most) with
    | true=>exact .inl rfl
    | false=>exact .inr (.inl ⟨x,by simp,by simp,by simp,by have:=of_decide_eq_false hL;omega,rfl⟩)
 | false=>
  simp only[cond_false]
  cases hg:mGet S a.Key with
  | none=>exact .inl rfl
  | some q=>
   simp only[putQ]
   cases hq:(stepQ a q).2 with
   | none=>exact .inl rfl
   | some q'=>exact .inr (.inr ⟨q,q',by simp,by simp,hq,rfl⟩)
theorem FewN.step{n:Nat}{S:SQ}(h:FewN n S)(R:List Kwf)(a:Kwg):FewN (n+1) (stepS R a S).2:=by
 intro k q hq
 rcases Lko R a S with e | ⟨x,_,_,_,_,e⟩ | ⟨q0,q',_,e1,e2,e⟩
 ·rw[e] at hq
  exact Nat.le_succ_of_le (h k q hq)
 ·rw[e,Kua] at hq
  split at hq
  ·cases hq;exact Nat.zero_le _
  exact Nat.le_succ_of_le (h k q hq)
 rw[e,Kua] at hq
 split at hq
 ·cases hq
  have:=Lkn e2
  have:=h _ _ e1
  omega
 exact Nat.le_succ_of_le (h k q hq)
def runS(R:List Kwf)(l:List Kwg)(S:SQ):SQ:=l.foldl (fun S a=>(stepS R a S).2) S
def refL(R:List Kwf):Nat→List Kwg→SQ→List Kwh
 | _,[],_=>[]
 | i,a :: l,S=>(bif (stepS R a S).1 != 0 then[⟨(i:Int),(stepS R a S).1⟩] else[])++refL R (i+1) l (stepS R a S).2
theorem FewN.run{R:List Kwf}:∀ (l:List Kwg) {n:Nat} {S:SQ},FewN n S→FewN (n+l.length) (runS R l S)
 | [],n,S,h=>h
 | a :: l,n,S,h=>by
  have:=FewN.run (R:=R) l (h.step R a)
  simp only[List.length_cons]
  rw[show n+(l.length+1)=n+1+l.length by omega]
  exact this
def Kd(l:List Kwg):Prop:=∀ a∈l,a.Kind=1∨a.Kind=2∨a.Kind=3∨a.Kind=4
section
variable{R:List Kwf}
theorem Lkp(ar2:List (Nat×Kwn)):∀ (l:List Kwg) (i n:Nat) (S:SQ) (al:List Bool) (ar:List (Nat×Kwj)) (m:List (Str×Nat)) (acc:List Kwh),RP al ar m S→FewN n S→n+l.length≤900000→acc.length+l.length≤900000→
  ∃ al' ar' m',rangeF (σ:=BagT×(List (Str×Nat))×(List Kwf)×(List Kwh)) (fun i5 x7 s6=>bi (Kxx (⟨s6.2.2.1,s6.2.1⟩:Kwi) x7 s6.1) fun y16=>bif (y16.1:Int) != 0 then(bi (apd s6.2.2.2 [(⟨(i5:Int),y16.1⟩:Kwh)]) fun y19=>some (y16.2.2,y16.2.1.list,y16.2.1.access,y19)) else(some (y16.2.2,y16.2.1.list,y16.2.1.access,s6.2.2.2))) i l ((al,ar,ar2),m,R,acc)=some ((al',ar',ar2),m',R,acc++refL R i l S)∧RP al' ar' m' (runS R l S)∧al.length≤al'.length
 | [],i,n,S,al,ar,m,acc,h,hf,_,_=>⟨al,ar,m,by simp[rangeF,refL],h,Nat.le_refl _⟩
 | a :: l,i,n,S,al,ar,m,acc,h,hf,hn,hc=>by
  simp only[List.length_cons] at hn hc
  obtain⟨al1,ar1,m1,e1,e2,e3⟩:=Lgn (R:=R) (ar2:=ar2) h (hf.few (by omega)) a
  simp only[rangeF,e1,bi_some,refL]
  cases hz:(stepS R a S).1 != 0 with
  | true=>
   simp only[cond_true]
   rw[Kux (by simp;omega),bi_some,bi_some]
   obtain⟨al2,ar2',m2,f1,f2,f3⟩:=Lkp ar2 l (i+1) (n+1) _ al1 ar1 m1 (acc++[⟨(i:Int),(stepS R a S).1⟩]) e2 (hf.step R a) (by omega) (by simp;omega)
   exact⟨al2,ar2',m2,by rw[f1,List.append_assoc],f2,Nat.le_trans e3 f3⟩
  | false=>
   simp only[cond_false,bi_some,List.nil_append]
   obtain⟨al2,ar2',m2,f1,f2,f3⟩:=Lkp ar2 l (i+1) (n+1) _ al1 ar1 m1 acc e2 (hf.step R a) (by omega) (by omega)
   exact⟨al2,ar2',m2,f1,f2,Nat.le_trans e3 f3⟩
theorem Lkq(ar2:List (Nat×Kwn))(t:Int):∀ (l:List Kwg) (i n:Nat) (S:SQ) (al:List Bool) (ar:List (Nat×Kwj)) (m:List (Str×Nat)),RP al ar m S→FewN n S→n+l.length≤900000→
  ∃ al' ar' m',rangeF (σ:=BagT×(List (Str×Nat))×(List Kwf)) (fun i1 x3 s2=>bif decide ((x3.At:Int)≤t) then(bi (Kxx (⟨s2.2.2,s2.2.1⟩:Kwi) x3 s2.1) fun y13=>some (y13.2.2,y13.2.1.list,y13.2.1.access)) else(some (s2.1,s2.2.1,s2.2.2))) i l ((al,ar,ar2),m,R)=some ((al',ar',ar2),m',R)∧RP al' ar' m' (runS R (l.filter fun a=>decide (a.At≤t)) S)∧al.length≤al'.length
 | [],i,n,S,al,ar,m,h,hf,_=>⟨al,ar,m,rfl,h,Nat.le_refl _⟩
 | a :: l,i,n,S,al,ar,m,h,hf,hn=>by
  simp only[List.length_cons] at hn
  simp only[rangeF,List.filter_cons]
  cases hd:decide (a.At≤t) with
  | true=>
   obtain⟨al1,ar1,m1,e1,e2,e3⟩:=Lgn (R:=R) (ar2:=ar2) h (hf.few (by omega)) a
   simp only[cond_true,e1,bi_some,if_true]
   obtain⟨al2,ar2',m2,f1,f2,f3⟩:=Lkq ar2 t l (i+1) (n+1) _ al1 ar1 m1 e2 (hf.step R a) (by omega)
   exact⟨al2,ar2',m2,f1,f2,Nat.le_trans e3 f3⟩
  | false=>
   simp only[cond_false,bi_some,Bool.false_eq_true,if_false]
   exact Lkq ar2 t l (i+1) n S al ar m h hf (by omega)
theorem Lkr(ar1:List (Nat×Kwj))(t:Int):∀ (l:List Kwg) (i n:Nat) (S:SQ) (al:List Bool) (ar:List (Nat×Kwn)) (m:List (Str×Nat)) (acc:List Kwh),Kd l→RW R al ar m S→FewN n S→n+l.length≤900000→acc.length+l.length≤900000→
  ∃ al' ar' m',(bi (rangeM (σ:=BagT×(List (Str×Nat))×(List Kwf)×(List Kwh)) (ρ:=BagT×(List (Str×Nat))×(List Kwf)×(List Kwh)) (fun i1 x3 s2=>bif decide ((x3.At:Int)>t) then(some (.out (s2.1,s2.2.1,s2.2.2.1,s2.2.2.2))) else(bi (Kyy (⟨s2.2.2.1,s2.2.1⟩:Kwm) x3 s2.1) fun y16=>bif (y16.1:Int) != 0 then(bi (apd s2.2.2.2 [(⟨(i1:Int),y16.1⟩:Kwh)]) fun y19=>some (.go (y16.2.2,y16.2.1.l,y16.2.1.v_r,y19))) else(some (.go (y16.2.2,y16.2.1.l,y16.2.1.v_r,s2.2.2.2))))) i l ((al,ar1,ar),m,R,acc)) fun q=>lsN q fun s2=>(s2.1,s2.2.1,s2.2.2.1,s2.2.2.2))=some ((al',ar1,ar'),m',R,acc++refL R i (l.takeWhile fun a=>decide (a.At≤t)) S)∧RW R al' ar' m' (runS R (l.takeWhile fun a=>decide (a.At≤t)) S)∧al.length≤al'.length
 | [],i,n,S,al,ar,m,acc,hk,h,hf,_,_=>⟨al,ar,m,by simp[rangeM,refL],h,Nat.le_refl _⟩
 | a :: l,i,n,S,al,ar,m,acc,hk,h,hf,hn,hc=>by
  simp only[List.length_cons] at hn hc
  simp only[rangeM,List.takeWhile_cons]
  by_cases ht:a.At≤t
  ·rw[dT ht,dF (show ¬ (a.At:Int)>t by omega)]
   obtain⟨al1,ar1',m1,e1,e2,e3⟩:=Do_ok (R:=R) (ar1:=ar1) h (hf.few (by omega)) a (hk a mCs)
   simp only[cond_false,e1,bi_some,if_true,refL]
   cases hz:(stepS R a S).1 != 0 with
   | true=>
    simp only[cond_true]
    rw[Kux (by simp;omega),bi_some]
    obtain⟨al2,ar2',m2,f1,f2,f3⟩:=Lkr ar1 t l (i+1) (n+1) _ al1 ar1' m1 (acc++[⟨(i:Int),(stepS R a S).1⟩]) (fun x hx=>hk x (mCo _ hx)) e2 (hf.step R a) (by omega) (by simp;omega)
    exact⟨al2,ar2',m2,by rw[←List.append_assoc];exact f1,f2,Nat.le_trans e3 f3⟩
   | false=>
    simp only[cond_false,List.nil_append]
    obtain⟨al2,ar2',m2,f1,f2,f3⟩:=Lkr ar1 t l (i+1) (n+1) _ al1 ar1' m1 acc (fun x hx=>hk x (mCo _ hx)) e2 (hf.step R a) (by omega) (by omega)
    exact⟨al2,ar2',m2,f1,f2,Nat.le_trans e3 f3⟩
  ·rw[dF ht,dT (show(a.At:Int)>t by omega)]
   exact⟨al,ar,m,by simp[refL],h,Nat.le_refl _⟩
def Rise(l:List Kwg):Prop:=l.Pairwise fun a b=>a.At≤b.At
theorem Lks(t:Int):∀ {l:List Kwg},Rise l→l.takeWhile (fun a=>decide (a.At≤t))=l.filter fun a=>decide (a.At≤t)
 | [],_=>rfl
 | a :: l,h=>by
  obtain⟨h1,h2⟩:=List.pairwise_cons.1 h
  rw[List.takeWhile_cons,List.filter_cons]
  by_cases ht:a.At≤t
  ·rw[dT ht,Lks t h2]
   rfl
  rw[dF ht]
  simp only[Bool.false_eq_true,if_false]
  exact(List.filter_eq_nil_iff.2 fun x hx=>by have:=h1 x hx;simp;omega).symm
def stA(R:List Kwf)(l:List Kwg)(t:Int):SQ:=runS R (l.filter fun a=>decide (a.At≤t)) []
def FrB(al:BagT):Prop:=(∀ e∈al.2.1,e.1<al.1.length)∧∀ e∈al.2.2,e.1<al.1.length
theorem Lkt{l:List Kwg}(hl:l.length≤800000)(t:Int){al:BagT}(hF:FrB al) :
  ∃ al' m,Kya R l t al=some (⟨R,m⟩,al')∧RP al'.1 al'.2.1 m (stA R l t)∧FrB al':=by
 obtain⟨a0,a1,a2⟩:=al
 obtain⟨al',ar',m',e1,e2,e3⟩:=Lkq (R:=R) a2 t l 0 0 [] a0 a1 [] (RX.nil hF.1) (FewN.nil 0) (by omega)
 refine⟨(al',ar',a2),m',?_,e2,e2.fr,fun e he=>nLl (hF.2 e he) e3⟩
 unfold Kya
 rw[e1];rfl
theorem Lku{l:List Kwg}(hl:l.length≤800000)(hk:Kd l)(hr:Rise l)(t:Int){al:BagT}(hF:FrB al) :
  ∃ al' m,Kyz R l t al=some (⟨R,m⟩,refL R 0 (l.filter fun a=>decide (a.At≤t)) [],al')∧RW R al'.1 al'.2.2 m (stA R l t)∧FrB al':=by
 obtain⟨a0,a1,a2⟩:=al
 obtain⟨al',ar',m',e1,e2,e3⟩:=Lkr (R:=R) a1 t l 0 0 [] a0 a2 [] [] hk (RX.nil hF.2) (FewN.nil 0) (by omega) (by simp;omega)
 rw[Lks t hr] at e1 e2
 refine⟨(al',a1,ar'),m',?_,e2,fun e he=>nLl (hF.1 e he) e3,e2.fr⟩
 unfold Kyz
 have:∀ {α β γ:Type} (x:Option α) (f:α→Option β) (g:β→Option γ),bi x (fun q=>bi (f q) g)=bi (bi x f) g:=fun x f g=>by cases x<;>rfl
 rw[this,e1];rfl
theorem Lkv{l:List Kwg}(hl:l.length≤800000){al:BagT}(hF:FrB al){k:Nat}(h0:Kxo k R l=some 0):∃ al',Kxy k R l al=some (refL R 0 l [],0,al')∧FrB al':=by
 obtain⟨a0,a1,a2⟩:=al
 obtain⟨al',ar',m',e1,e2,e3⟩:=Lkp (R:=R) a2 l 0 0 [] a0 a1 [] [] (RX.nil hF.1) (FewN.nil 0) (by omega) (by simp;omega)
 refine⟨(al',ar',a2),?_,e2.fr,fun e he=>nLl (hF.2 e he) e3⟩
 unfold Kxy
 rw[h0,bi_some]
 simp only[bne_self_eq_false,cond_false]
 rw[e1];rfl
theorem Lkw{l:List Kwg}(hl:l.length≤800000)(hk:Kd l)(hr:Rise l)(ha:∀ a∈l,a.At<345686400){al:BagT}(hF:FrB al):∃ al',Kza R l al=some (refL R 0 l [],al')∧FrB al':=by
 obtain⟨al',m,e1,e2,e3⟩:=Lku (R:=R) hl hk hr 345686400 hF
 refine⟨al',?_,e3⟩
 unfold Kza
 rw[e1,List.filter_eq_self.2 fun a h=>by have:=ha a h;simp;omega];rfl
end
end Go.Gk
