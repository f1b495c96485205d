import Derived.Test.YtjmlnnanfkiakaaGreatDoorGk39
import Derived.Test.YtjmlnnanfkiakaaGreatDoorXLM
set_option linter.all false
set_option maxRecDepth 100000
namespace Go.Gk
class KOrd (K:Type) [BEq K] [KLt K]:Prop where
 irr:∀ a:K,KLt.lt a a=false
 tr:∀ a b c:K,KLt.lt a b=true→KLt.lt b c=true→KLt.lt a c=true
 tri:∀ a b:K,KLt.lt a b=false→KLt.lt b a=false→a=b
theorem Laf:∀ a:List UInt8,Op.bytesLess a a=false
 | []=>rfl
 | x :: a=>by simp[Op.bytesLess,Laf a]
theorem Lag:∀ a b c:List UInt8,Op.bytesLess a b=true→Op.bytesLess b c=true→Op.bytesLess a c=true
 | _,[],_,h,_=>by cases ‹List UInt8›<;>simp[Op.bytesLess] at h
 | _,_ :: _,[],_,h=>by simp[Op.bytesLess] at h
 | [],_ :: _,_ :: _,_,_=>rfl
 | x :: a,y :: b,z :: c,h,k=>by
  simp only[Op.bytesLess,Bool.or_eq_true,decide_eq_true_eq,Bool.and_eq_true,beq_iff_eq] at h k ⊢
  rcases h with h | ⟨rfl,h⟩
  ·rcases k with k | ⟨rfl,k⟩
   ·exact .inl (UInt8.lt_trans h k)
   exact .inl h
  rcases k with k | ⟨rfl,k⟩
  ·exact .inl k
  exact .inr ⟨rfl,Lag a b c h k⟩
theorem Lah:∀ a b:List UInt8,Op.bytesLess a b=false→Op.bytesLess b a=false→a=b
 | [],[],_,_=>rfl
 | [],_ :: _,h,_=>by simp[Op.bytesLess] at h
 | _ :: _,[],_,h=>by simp[Op.bytesLess] at h
 | x :: a,y :: b,h,k=>by
  simp only[Op.bytesLess,Bool.or_eq_false_iff,decide_eq_false_iff_not,Bool.and_eq_false_iff,beq_eq_false_iff_ne,ne_eq] at h k
  have e:x=y:=by
   apply UInt8.toNat_inj.1
   have h1:=h.1;have k1:=k.1
   rw[UInt8.lt_iff_toNat_lt] at h1 k1
   omega
  subst e
  rw[Lah a b (by simpa using h.2) (by simpa using k.2)]
instance:KOrd (List UInt8):=⟨Laf,Lag,Lah⟩
instance:KOrd Int:=⟨fun a=>by simp[KLt.lt],fun a b c h k=>by simp only[KLt.lt,decide_eq_true_eq] at h k ⊢;omega,fun a b h k=>by simp only[KLt.lt,decide_eq_false_iff_not] at h k;omega⟩
section
variable{K V:Type}[BEq K][LawfulBEq K][KLt K][KOrd K]
def SM(m:List (K×V)):Prop:=m.Pairwise fun a b=>KLt.lt a.1 b.1=true
theorem Lai{a b:K}(h:KLt.lt a b=true):a≠b:=fun e=>by subst e;rw[KOrd.irr] at h;cases h
theorem SM.nil:SM ([]:List (K×V)):=List.Pairwise.nil
theorem Laj(k:K):mGet ([]:List (K×V)) k=none:=rfl
theorem Lak(e:K×V)(m:List (K×V))(k:K):mGet (e :: m) k=if k==e.1 then some e.2 else mGet m k:=by
 unfold mGet
 simp only[List.find?_cons]
 cases (k==e.1)<;>rfl
theorem Lal{m:List (K×V)}{k:K}:mGet m k=none ↔ ∀ e∈m,e.1≠k:=by
 induction m with
 | nil=>simp[Laj]
 | cons e m ih=>
  rw[Lak]
  by_cases h:k=e.1
  ·subst h;simp
  have:(k==e.1)=false:=by simpa using h
  rw[this]
  simp only[Bool.false_eq_true,if_false,ih,List.forall_mem_cons]
  exact⟨fun h1=>⟨Ne.symm h,h1⟩,fun h1=>h1.2⟩
theorem Lam{m:List (K×V)}{k:K}{v:V}(h:mGet m k=some v):(k,v)∈m:=by
 induction m with
 | nil=>cases h
 | cons e m ih=>
  rw[Lak] at h
  by_cases hk:k=e.1
  ·subst hk;simp at h;subst h;exact mCs ..
  have:(k==e.1)=false:=by simpa using hk
  rw[this] at h
  exact mCo _ (ih (by simpa using h))
theorem SM.get{m:List (K×V)}(h:SM m){k:K}{v:V}(hm:(k,v)∈m):mGet m k=some v:=by
 induction m with
 | nil=>cases hm
 | cons e m ih=>
  obtain⟨h1,h2⟩:=List.pairwise_cons.1 h
  rw[Lak]
  rcases List.mem_cons.1 hm with rfl | hm
  ·simp
  have:(k==e.1)=false:=by simpa using (Lai (h1 _ hm)).symm
  rw[this]
  simpa using ih h2 hm
theorem SM.mem_iff{m:List (K×V)}(h:SM m){k:K}{v:V}:(k,v)∈m ↔ mGet m k=some v:=⟨h.get,Lam⟩
theorem SM.ext:∀ {a b:List (K×V)},SM a→SM b→(∀ k,mGet a k=mGet b k)→a=b
 | [],[],_,_,_=>rfl
 | [],e :: b,_,_,h=>by have:=h e.1;rw[Laj,Lak] at this;simp at this
 | e :: a,[],_,_,h=>by have:=h e.1;rw[Laj,Lak] at this;simp at this
 | x :: a,y :: b,ha,hb,h=>by
  obtain⟨a1,a2⟩:=List.pairwise_cons.1 ha
  obtain⟨b1,b2⟩:=List.pairwise_cons.1 hb
  have hxy:x.1=y.1:=by
   cases h1:KLt.lt x.1 y.1 with
   | true=>
    have hx:=h x.1
    rw[Lak,Lak] at hx
    have hn:(x.1==y.1)=false:=by simpa using Lai h1
    rw[hn] at hx
    simp only[beq_self_eq_true,if_true,Bool.false_eq_true,if_false] at hx
    have:=b1 _ (Lam hx.symm)
    have:=KOrd.tr _ _ _ h1 this
    rw[KOrd.irr] at this;cases this
   | false=>
    cases h2:KLt.lt y.1 x.1 with
    | true=>
     have hy:=h y.1
     rw[Lak,Lak] at hy
     have hn:(y.1==x.1)=false:=by simpa using Lai h2
     rw[hn] at hy
     simp only[beq_self_eq_true,if_true,Bool.false_eq_true,if_false] at hy
     have:=a1 _ (Lam hy)
     have:=KOrd.tr _ _ _ h2 this
     rw[KOrd.irr] at this;cases this
    | false=>exact KOrd.tri _ _ h1 h2
  have hv:x.2=y.2:=by
   have:=h x.1
   rw[Lak,Lak,←hxy] at this
   simpa using this
  have he:x=y:=Prod.ext hxy hv
  subst he
  congr 1
  refine SM.ext a2 b2 fun k=>?_
  have hk:=h k
  rw[Lak,Lak] at hk
  by_cases e:k=x.1
  ·subst e
   rw[Lal.2 fun e he=>(Lai (a1 e he)).symm,Lal.2 fun e he=>(Lai (b1 e he)).symm]
  have:(k==x.1)=false:=by simpa using e
  simpa [this] using hk
theorem SM.ins{m:List (K×V)}(h:SM m){k:K}{v:V}(hn:∀ e∈m,e.1≠k):SM (mIns k v m):=by
 induction m with
 | nil=>exact List.pairwise_singleton ..
 | cons e m ih=>
  obtain⟨h1,h2⟩:=List.pairwise_cons.1 h
  simp only[mIns]
  cases hlt:KLt.lt k e.1 with
  | true=>
   refine List.pairwise_cons.2 ⟨fun x hx=>?_,h⟩
   rcases List.mem_cons.1 hx with rfl | hx
   ·exact hlt
   exact KOrd.tr _ _ _ hlt (h1 x hx)
  | false=>
   have hek:KLt.lt e.1 k=true:=by
    cases hh:KLt.lt e.1 k with
    | true=>rfl
    | false=>exact absurd (KOrd.tri _ _ hlt hh).symm (hn e (mCs ..))
   refine List.pairwise_cons.2 ⟨fun x hx=>?_,ih h2 fun x hx=>hn x (mCo _ hx)⟩
   have:=(Kho k v m).mem_iff.1 hx
   simp only[List.mem_append,List.mem_singleton] at this
   rcases this with hx | rfl
   ·exact h1 x hx
   exact hek
theorem Lan{m:List (K×V)}{k:K}{v:V}(hn:∀ e∈m,e.1≠k)(k':K):mGet (mIns k v m) k'=if k'==k then some v else mGet m k':=by
 induction m with
 | nil=>simp[mIns,Lak]
 | cons e m ih=>
  simp only[mIns]
  cases hlt:KLt.lt k e.1 with
  | true=>simp[Lak]
  | false=>
   simp only[cond_false,Lak,ih fun x hx=>hn x (List.mem_cons_of_mem _ hx)]
   by_cases h1:k'=e.1
   ·subst h1
    have:(e.1==k)=false:=by simpa using hn e (mCs ..)
    simp[this]
   have:(k'==e.1)=false:=by simpa using h1
   simp[this]
theorem Lao{m:List (K×V)}{k:K}{v:V}(hn:∀ e∈m,e.1≠k):mSet m k v=mIns k v m:=by
 unfold mSet
 have:m.findIdx? (fun e=>k==e.1)=none:=by
  rw[List.findIdx?_eq_none_iff]
  intro e he
  simpa using (hn e he).symm
 rw[this]
theorem Lap{m:List (K×V)}{k:K}{v:V}{i:Nat}(h:m.findIdx? (fun e=>k==e.1)=some i):mSet m k v=m.set i (k,v):=by unfold mSet;rw[h]
theorem SM.set{m:List (K×V)}(h:SM m)(k:K)(v:V):SM (mSet m k v):=by
 cases hf:m.findIdx? (fun e=>k==e.1) with
 | none=>
  have hn:∀ e∈m,e.1≠k:=fun e he=>by
   have:=List.findIdx?_eq_none_iff.1 hf e he
   intro e2;subst e2;simp at this
  rw[Lao hn]
  exact h.ins hn
 | some i=>
  rw[Lap hf]
  obtain⟨hi,hk,_⟩:=lFi.1 hf
  have hk':k=m[i].1:=by simpa using hk
  unfold SM
  have e1:(m.set i (k,v)).map (·.1)=m.map (·.1):=by
   rw[List.map_set]
   apply List.ext_getElem?
   intro j
   by_cases hj:j=i
   ·subst hj;simp[hi,hk']
   rw[gSn (Ne.symm hj)]
  have h2:(m.map (·.1)).Pairwise fun a b=>KLt.lt a b=true:=List.pairwise_map.2 h
  rw[←e1] at h2
  exact List.pairwise_map.1 h2
theorem Laq(m:List (K×V))(k:K)(v:V)(k':K):mGet (mSet m k v) k'=if k'==k then some v else mGet m k':=by
 cases hf:m.findIdx? (fun e=>k==e.1) with
 | none=>
  have hn:∀ e∈m,e.1≠k:=fun e he=>by
   have:=List.findIdx?_eq_none_iff.1 hf e he
   intro e2;subst e2;simp at this
  rw[Lao hn,Lan hn]
 | some i=>
  rw[Lap hf]
  induction m generalizing i with
  | nil=>simp at hf
  | cons e m ih=>
   rw[List.findIdx?_cons] at hf
   by_cases hk:k=e.1
   ·subst hk
    simp at hf
    subst hf
    simp only[List.set_cons_zero,Lak]
    by_cases h2:k'=e.1
    ·subst h2;simp
    have:(k'==e.1)=false:=by simpa using h2
    simp[this]
   have hk2:(k==e.1)=false:=by simpa using hk
   rw[hk2] at hf
   simp only[Bool.false_eq_true,if_false,Option.map_eq_some_iff] at hf
   obtain⟨j,hj,rfl⟩:=hf
   simp only[List.set_cons_succ,Lak,ih j hj]
   by_cases h2:k'=e.1
   ·subst h2
    have:(e.1==k)=false:=by simpa using Ne.symm hk
    simp[this]
   have:(k'==e.1)=false:=by simpa using h2
   simp[this]
theorem Lar{α σ:Type}{f:α→σ→Option σ}{m:List α}{s r:σ}(I:List α→σ→Prop)(h0:I [] s)
  (hst:∀ (seen:List α) (x:α) (s:σ),(∃ rest,(seen++x :: rest).Perm m)→I seen s→∃ s',f x s=some s'∧I (seen++[x]) s')
  (hend:∀ (seen:List α) (s:σ),seen.Perm m→I seen s→s=r):rangeP f m s=some r:=by
 rw[Kih]
 intro m' hm'
 have key:∀ (l seen:List α) (s:σ),(seen++l).Perm m→I seen s→∃ s',rangeL f l s=some s'∧I (seen++l) s':=by
  intro l
  induction l with
  | nil=>intro seen s hp hi;exact⟨s,rfl,by simpa using hi⟩
  | cons x l ih=>
   intro seen s hp hi
   obtain⟨s',e1,e2⟩:=hst seen x s ⟨l,hp⟩ hi
   obtain⟨s2,e3,e4⟩:=ih (seen++[x]) s' (by simpa using hp) e2
   refine⟨s2,?_,by simpa using e4⟩
   simp only[rangeL,e1]
   exact e3
 obtain⟨s',e1,e2⟩:=key m' [] s (by simpa using hm') h0
 rw[e1,hend m' s' hm' (by simpa using e2)]
end
end Go.Gk
namespace Go.Gk
theorem Lbf{n:Int}(h1 : -9223372036854775808≤n)(h2:n≤9223372036854775807):wi n=n:=w64 ⟨h1,h2⟩
theorem Lbg(x n:Int)(hn:1≤n)(hn2:n≤4611686018427387904):∃ r,0≤r∧r<n∧Lfl x n=some r:=by
 have h1:x.tmod n<n:=Int.tmod_lt_of_pos x (by omega)
 have h2 : -n<x.tmod n:=by
  have:=Int.tmod_lt_of_pos (-x) (show 0<n by omega)
  rw[Int.neg_tmod] at this
  omega
 unfold Lfl remZ
 rw[dF (show ¬ n<1 by omega),dF (show ¬ n=0 by omega)]
 simp only[cond_false,bi_some]
 by_cases h:x.tmod n<0
 ·rw[dT h]
  exact⟨x.tmod n+n,by omega,by omega,by simp only[cond_true,bi_some];rw[Lbf (by omega) (by omega)]⟩
 rw[dF h]
 exact⟨x.tmod n,by omega,h1,rfl⟩
theorem Lbh(l:List Int)(a n:Int)(hl:l.length≤9223372036854775807)(h0:0≤a)(h1:a<4611686018427387904)(hn:1≤n)(hn2:n≤4611686018427387904) :
  ∃ r,0≤r∧r<n∧Lfm ⟨l,a⟩ n=some (r,⟨l,a+1⟩):=by
 unfold Lfm
 have hw:wi (a+1)=a+1:=Lbf (by omega) (by omega)
 have hw1:wi (a+1 - 1)=a:=by rw[Lbf (by omega) (by omega)];omega
 simp only[hw,hw1]
 by_cases hne:l.length=0
 ·obtain⟨r,r0,r1,hr⟩:=Lbg (wi ((a+1) * 7919)) n hn hn2
  exact⟨r,r0,r1,by simp[hne,hr]⟩
 ·have hk:a.toNat % l.length<l.length:=Nat.mod_lt _ (by omega)
  have hkk:a.tmod (l.length:Int)=((a.toNat % l.length:Nat):Int):=by
   rw[Int.tmod_eq_emod_of_nonneg h0,Int.natCast_emod,Int.toNat_of_nonneg h0]
  have hne':¬ (l.length:Int)=0:=by omega
  obtain⟨r1,_,_,e1⟩:=Lbg l[a.toNat % l.length] 1073741824 (by decide) (by decide)
  obtain⟨r,r0,r1,hr⟩:=Lbg (wi (r1+wi (wi (a.tdiv (l.length:Int)) * wi (7919+((a.toNat % l.length:Nat):Int))))) n hn hn2
  refine⟨r,r0,r1,?_⟩
  have:((l.length:Int)==0)=false:=by simpa using hne'
  rw[this]
  simp only[cond_false,remZ,divZ,decide_eq_false hne',bi_some,hkk,getZ_cast,List.getElem?_eq_getElem hk,e1]
  rw[show IntKind.i64.wrap (a.tdiv (l.length:Int))=wi (a.tdiv (l.length:Int)) from rfl,hr]
  rfl
theorem Lbi(l:List Int)(a n:Int)(hl:l.length≤9223372036854775807)(h0:0≤a)(h1:a<4611686018427387904)(hn:1≤n)(hn2:n≤4611686018427387904) :
  ∃ b,Lfp ⟨l,a⟩ n=some (b,⟨l,a+1⟩):=by
 obtain⟨r,_,_,h⟩:=Lbh l a n hl h0 h1 hn hn2
 exact⟨_,by unfold Lfp;rw[h];rfl⟩
theorem Lbj{α:Type}(xs:List α){r:Int}(h0:0≤r)(h1:r<xs.length):∃ x,x∈xs∧getZ xs r=some x:=by
 obtain⟨k,rfl⟩:=Int.eq_ofNat_of_zero_le h0
 exact⟨xs[k],List.getElem_mem _,by rw[getZ_cast,gGe (by omega)]⟩
theorem Lbk(l:List Int)(a:Int)(xs:List Str)(hl:l.length≤9223372036854775807)(h0:0≤a)(h1:a<4611686018427387904)(hn:1≤xs.length)(hn2:xs.length≤1000) :
  ∃ x,x∈xs∧Lfr ⟨l,a⟩ xs=some (x,⟨l,a+1⟩):=by
 obtain⟨r,r0,r1,h⟩:=Lbh l a xs.length hl h0 h1 (by omega) (by omega)
 obtain⟨x,hx,e⟩:=Lbj xs r0 r1
 exact⟨x,hx,by unfold Lfr;rw[h];simp only[bi_some,e]⟩
theorem Lbl(l:List Int)(a:Int)(xs:List Int)(hl:l.length≤9223372036854775807)(h0:0≤a)(h1:a<4611686018427387904)(hn:1≤xs.length)(hn2:xs.length≤1000) :
  ∃ x,x∈xs∧Lfo ⟨l,a⟩ xs=some (x,⟨l,a+1⟩):=by
 obtain⟨r,r0,r1,h⟩:=Lbh l a xs.length hl h0 h1 (by omega) (by omega)
 obtain⟨x,hx,e⟩:=Lbj xs r0 r1
 exact⟨x,hx,by unfold Lfo;rw[h];simp only[bi_some,e]⟩
theorem Lbm{α:Type}{a b:List α}(h:a.length+b.length≤4294967296):apd a b=some (a++b):=by unfold apd;rw[Nat.ble_eq_true_of_le h];rfl
def Dr{α:Type}(l:List Int)(a:Int)(n:Int)(m:Option (α×Lev))(p:α→Prop):Prop:=∃ x a',p x∧a≤a'∧a'≤a+n∧m=some (x,⟨l,a'⟩)
theorem Lbn(l:List Int)(a lo hi:Int)(hl:l.length≤9223372036854775807)(h0:0≤a)(h1:a<4611686018427387904)(h2:lo≤hi)(h3 : -1000000000≤lo)(h4:hi≤1000000000) :
  ∃ r,lo≤r∧r≤hi∧Lfn ⟨l,a⟩ lo hi=some (r,⟨l,a+1⟩):=by
 unfold Lfn
 have w1:wi (hi - lo)=hi - lo:=Lbf (by omega) (by omega)
 have w2:wi (hi - lo+1)=hi - lo+1:=Lbf (by omega) (by omega)
 obtain⟨r,r0,r1,hr⟩:=Lbh l a (hi - lo+1) hl h0 h1 (by omega) (by omega)
 refine⟨lo+r,by omega,by omega,?_⟩
 rw[dF (show ¬ hi<lo by omega),w1,w2,hr]
 simp only[cond_false,bi_some]
 rw[Lbf (by omega) (by omega)]
theorem Lbo{α σ ρ:Type}{f g:Nat→α→σ→Option (LS σ ρ)}:∀ (l:List α) (i:Nat) (s:σ),(∀ j x s,x∈l→f j x s=g j x s)→rangeM f i l s=rangeM g i l s
 | [],i,s,_=>rfl
 | x :: l,i,s,h=>by
  simp only[rangeM,h i x s List.mem_cons_self]
  cases g i x s with
  | none=>rfl
  | some y=>
   cases y with
   | out r=>rfl
   | go s'=>exact Lbo l (i+1) s' fun j y s hy=>h j y s (mCo _ hy)
theorem Lbp{α ρ:Type}{f:Nat→α→Unit→Option (LS Unit ρ)}:∀ (l:List α) (i:Nat),(∀ j x,j<i+l.length→x∈l→∃ y,f j x ()=some y)→∃ r,rangeM f i l ()=some r
 | [],i,_=>⟨_,rfl⟩
 | x :: l,i,h=>by
  obtain⟨y,hy⟩:=h i x (by simp) mCs
  simp only[rangeM,hy]
  cases y with
  | out r=>exact⟨_,rfl⟩
  | go s'=>exact Lbp l (i+1) fun j y hj hy=>h j y (by simp only[List.length_cons];omega) (mCo _ hy)
theorem Lbq(n a b:Int):∃ c,Lhc n a b=some c∧Lgk n a b=some (!c):=by
 refine⟨_,rfl,?_⟩
 unfold Lgk
 congr 1
 rw[Bool.eq_iff_iff]
 simp
def cmpI(x y:Int):Int:=if x<y then -1 else if x>y then 1 else 0
theorem Lbr(x y:Int):Lfx x y=some (cmpI x y):=by
 unfold Lfx Lfw cmpI
 have:∀ z:Int,(z != z)=false:=fun z=>by simp
 rw[this,this]
 by_cases h:x<y
 ·simp[h]
 by_cases h2:y<x<;>simp[h,h2]
theorem Lbs(x:Int)(l:List Int):∃ c,Lfy (x :: l)=some c∧(x≠0→c=x):=by
 unfold Lfy
 by_cases h:x=0
 ·generalize hf:(fun (i1:Nat) (x3:Int) (s2:Unit)=>_)=f
  obtain⟨r,hr⟩:=Lbp (f:=f) (x :: l) 0 (by
   intro j x _ _
   subst hf
   simp only
   cases (x != 0)<;>exact⟨_,rfl⟩)
  rw[hr]
  cases r<;>exact⟨_,rfl,fun h2=>absurd h h2⟩
 have:(x != 0)=true:=by simpa using h
 exact⟨x,by simp[rangeM,this,goI],fun _=>rfl⟩
end Go.Gk
namespace Go.Gk
theorem Kzw{σ ρ:Type}{f:σ→Option (LS σ ρ)}(I:σ→Prop)(μ:σ→Nat)(Q:ρ→Prop)(step:∀ s,I s→(∃ r,f s=some (.out r)∧Q r)∨(∃ s',f s=some (.go s')∧I s'∧μ s'<μ s)) :
  ∀ (k:Nat) (s:σ),μ s<k→I s→∃ r,loopM f k s=some r∧Q r
 | 0,s,hk,_=>absurd hk (Nat.not_lt_zero _)
 | k+1,s,hk,h=>by
  rcases step s h with⟨r,e,q⟩ | ⟨s',e,i,m⟩
  ·exact⟨r,by simp only[loopM,e],q⟩
  ·obtain⟨r,e2,q⟩:=Kzw I μ Q step k s' (by omega) i
   exact⟨r,by simp only[loopM,e];exact e2,q⟩
theorem Kzx{σ ρ β:Type}{f:σ→Option (LS σ ρ)}{g:ρ→Option β}{k:Nat}{s:σ}{v:β}(I:σ→Prop)(μ:σ→Nat)(Q:ρ→Prop)
  (step:∀ s,I s→(∃ r,f s=some (.out r)∧Q r)∨(∃ s',f s=some (.go s')∧I s'∧μ s'<μ s)) (h0:I s) (hk:μ s<k) (hg:∀ r,Q r→g r=some v):bi (loopM f k s) g=some v:=by
 obtain⟨r,h1,h2⟩:=Kzw I μ Q step k s hk h0
 rw[h1];exact hg r h2
theorem Kzy{α σ:Type}{f:Nat→α→σ→Option σ}(L:List α)(I:Nat→σ→Prop)(step:∀ (i:Nat) (x:α) (s:σ),L[i]?=some x→I i s→∃ s',f i x s=some s'∧I (i+1) s') :
  ∀ (l:List α) (i:Nat) (s:σ),L.drop i=l→I i s→∃ r,rangeF f i l s=some r∧I (i+l.length) r
 | [],i,s,_,h=>⟨s,rfl,h⟩
 | x :: l,i,s,hd,h=>by
  have hx:L[i]?=some x:=by have:=congrArg (fun q=>q[0]?) hd;simpa using this
  obtain⟨s',h1,h2⟩:=step i x s hx h
  obtain⟨r,h3,h4⟩:=Kzy L I step l (i+1) s' (by rw[←List.drop_drop,hd];rfl) h2
  refine⟨r,by simp only[rangeF,h1,bi_some,h3],?_⟩
  rw[List.length_cons,show i+(l.length+1)=i+1+l.length by omega]
  exact h4
theorem Kzz{σ:Type}{f:Nat→σ→Option σ}{n:Int}{s:σ}(I:Nat→σ→Prop)(h0:I 0 s)
  (step:∀ (i:Nat) (s:σ),i<n.toNat→I i s→∃ s',f i s=some s'∧I (i+1) s'):∃ r,rangeG f n s=some r∧I n.toNat r:=by
 obtain⟨r,h1,h2⟩:=Kzy (f:=fun i (_:Unit) s=>f i s) (List.replicate n.toNat ()) I (fun i x s hx hi=>step i s (by have:=(gEs.1 hx).1;simpa using this) hi) (List.replicate n.toNat ()) 0 s rfl h0
 exact⟨r,h1,by simpa using h2⟩
theorem Laa{α σ ρ:Type}{f:Nat→α→σ→Option (LS σ ρ)}(L:List α)(I:Nat→σ→Prop)(Q:ρ→Prop)(step:∀ (i:Nat) (x:α) (s:σ),L[i]?=some x→I i s→(∃ s',f i x s=some (.go s')∧I (i+1) s')∨∃ r,f i x s=some (.out r)∧Q r) :
  ∀ (l:List α) (i:Nat) (s:σ),L.drop i=l→I i s→(∃ s',rangeM f i l s=some (.go s')∧I (i+l.length) s')∨∃ r,rangeM f i l s=some (.out r)∧Q r
 | [],i,s,_,h=>.inl ⟨s,rfl,h⟩
 | x :: l,i,s,hd,h=>by
  have hx:L[i]?=some x:=by have:=congrArg (fun q=>q[0]?) hd;simpa using this
  rcases step i x s hx h with⟨s',h1,h2⟩ | ⟨r,h1,h2⟩
  ·rcases Laa L I Q step l (i+1) s' (by rw[←List.drop_drop,hd];rfl) h2 with⟨s2,h3,h4⟩ | ⟨r,h3,h4⟩
   ·refine .inl ⟨s2,by simp only[rangeM,h1,h3],?_⟩
    rw[List.length_cons,show i+(l.length+1)=i+1+l.length by omega]
    exact h4
   ·exact .inr ⟨r,by simp only[rangeM,h1,h3],h4⟩
  ·exact .inr ⟨r,by simp only[rangeM,h1],h2⟩
theorem Lab{α σ σ' ρ ρ':Type}{f:Nat→α→σ→Option (LS σ ρ)}{g:Nat→α→σ'→Option (LS σ' ρ')}(L:List α)(I:Nat→σ→σ'→Prop)(Q:ρ→ρ'→Prop)
  (step:∀ (i:Nat) (x:α) (s:σ) (t:σ'),L[i]?=some x→I i s t→(∃ s' t',f i x s=some (.go s')∧g i x t=some (.go t')∧I (i+1) s' t')∨∃ r q,f i x s=some (.out r)∧g i x t=some (.out q)∧Q r q) :
  ∀ (l:List α) (i:Nat) (s:σ) (t:σ'),L.drop i=l→I i s t→(∃ s' t',rangeM f i l s=some (.go s')∧rangeM g i l t=some (.go t')∧I (i+l.length) s' t')∨∃ r q,rangeM f i l s=some (.out r)∧rangeM g i l t=some (.out q)∧Q r q
 | [],i,s,t,_,h=>.inl ⟨s,t,rfl,rfl,h⟩
 | x :: l,i,s,t,hd,h=>by
  have hx:L[i]?=some x:=by have:=congrArg (fun q=>q[0]?) hd;simpa using this
  rcases step i x s t hx h with⟨s',t',h1,h1',h2⟩ | ⟨r,q,h1,h1',h2⟩
  ·rcases Lab L I Q step l (i+1) s' t' (by rw[←List.drop_drop,hd];rfl) h2 with⟨s2,t2,h3,h3',h4⟩ | ⟨r,q,h3,h3',h4⟩
   ·refine .inl ⟨s2,t2,by simp only[rangeM,h1,h3],by simp only[rangeM,h1',h3'],?_⟩
    rw[List.length_cons,show i+(l.length+1)=i+1+l.length by omega]
    exact h4
   ·exact .inr ⟨r,q,by simp only[rangeM,h1,h3],by simp only[rangeM,h1',h3'],h4⟩
  ·exact .inr ⟨r,q,by simp only[rangeM,h1],by simp only[rangeM,h1'],h2⟩
theorem Lac{α:Type}{l:List α}{i j:Nat}(h1:i≤j)(h2:j≤l.length):subZ l (i:Int) (j:Int)=some ((l.take j).drop i):=by
 unfold subZ
 rw[dT (show(0:Int)≤i by omega),dT (show(i:Int)≤j by omega),dT (show(j:Int)≤(l.length:Int) by omega)]
 rfl
theorem Lad{α:Type}{l:List α}{i:Nat}{x:α}(h:l[i]?=some x):getZ l (i:Int)=some x:=by rw[getZ_cast];exact h
theorem Lae{α:Type}{l:List α}{i:Int}{j:Nat}{x:α}(hi:i=(j:Int))(h:l[j]?=some x):getZ l i=some x:=by subst hi;exact Lad h
end Go.Gk
namespace Go.Gk
def ixZ{α:Type}(p:α→Bool)(l:List α):Int:=match l.findIdx? p with
 | some i=>(i:Int)
 | none=>-1
theorem Lcq{α:Type}{p:α→Bool}{l:List α}(h:l.any p=false):ixZ p l=-1:=by
 unfold ixZ
 rw[List.findIdx?_eq_none_iff.2 (by simpa using h)]
theorem Lcr{α:Type}{p:α→Bool}{l:List α}(h:l.any p=true):∃ (i:Nat) (a:α),ixZ p l=(i:Int)∧l.findIdx? p=some i∧l[i]?=some a∧p a=true∧(l.take i).any p=false:=by
 unfold ixZ
 cases hi:l.findIdx? p with
 | none=>
  rw[List.findIdx?_eq_none_iff] at hi
  rw[List.any_eq_true] at h
  obtain⟨x,hx,hp⟩:=h
  rw[hi x hx] at hp;cases hp
 | some i=>
  obtain⟨h1,h2,h3⟩:=lFi.1 hi
  refine⟨i,l[i],rfl,rfl,gGe h1,h2,?_⟩
  rw[List.any_eq_false]
  intro x hx
  obtain⟨j,hj,e⟩:=List.getElem_of_mem hx
  rw[List.length_take] at hj
  rw[List.getElem_take] at e
  subst e
  have:=h3 j (by omega)
  simpa using this
theorem Lcs{α:Type}(p:α→Bool)(l:List α):decide (ixZ p l≥0)=l.any p:=by
 cases h:l.any p with
 | false=>rw[Lcq h];rfl
 | true=>obtain⟨i,a,e,_⟩:=Lcr h;rw[e];simp
theorem Lct{α:Type}{f:Nat→α→Unit→Option (LS Unit Int)}(p:α→Bool):∀ (l:List α) (i:Nat),(∀ (j:Nat) x,l[j]?=some x→f (i+j) x ()=some (if p x then .out ((i+j:Nat):Int) else .go ()))→
  rangeM f i l ()=some (match l.findIdx? p with | some j=>.out ((i+j:Nat):Int) | none=>.go ())
 | [],i,_=>rfl
 | x :: l,i,h=>by
  have h0:=h 0 x (by simp)
  have ih:=Lct p l (i+1) fun j y hy=>by rw[show i+1+j=i+(j+1) by omega];exact h (j+1) y (by simpa using hy)
  rw[Nat.add_zero] at h0
  simp only[rangeM,h0,List.findIdx?_cons]
  by_cases hp:p x=true
  ·simp[hp]
  ·simp only[Bool.not_eq_true] at hp
   simp only[hp,Bool.false_eq_true,if_false,ih]
   cases l.findIdx? p with
   | none=>rfl
   | some j=>simp only[Option.map_some];rw[show i+1+j=i+(j+1) by omega]
theorem Lcu{α:Type}{f:Nat→α→Unit→Option (LS Unit Int)}(p:α→Bool)(l:List α)(h:∀ (j:Nat) x,l[j]?=some x→f j x ()=some (if p x then .out (j:Int) else .go ())) :
  (bi (rangeM f 0 l ()) fun q=>goI q fun _=>some (-1))=some (ixZ p l):=by
 rw[Lct p l 0 fun j x hx=>by rw[Nat.zero_add];exact h j x hx]
 unfold ixZ
 cases l.findIdx? p with
 | none=>rfl
 | some j=>simp
theorem Lcv{α σ ρ:Type}{f:Nat→σ→Option (LS σ ρ)}{g:Nat→α→σ→Option (LS σ ρ)}(l:List α)(h:∀ (j:Nat) x s,l[j]?=some x→f j s=g j x s)(s:σ):rangeI f (l.length:Int) s=rangeM g 0 l s:=by
 have key:∀ (m:List α) (i:Nat) (s:σ),(∀ (j:Nat) x s,m[j]?=some x→f (i+j) s=g (i+j) x s)→rangeM (fun i (_:Unit) s=>f i s) i (List.replicate m.length ()) s=rangeM g i m s:=by
  intro m
  induction m with
  | nil=>intro i s _;rfl
  | cons x m ih=>
   intro i s h
   have h0:=h 0 x s (by simp)
   rw[Nat.add_zero] at h0
   simp only[List.length_cons,List.replicate_succ,rangeM,h0]
   cases g i x s with
   | none=>rfl
   | some y=>
    cases y with
    | out r=>rfl
    | go s'=>exact ih (i+1) s' fun j y s hy=>by rw[show i+1+j=i+(j+1) by omega];exact h (j+1) y s (by simpa using hy)
 unfold rangeI
 rw[Int.toNat_natCast]
 exact key l 0 s fun j x s hx=>by rw[Nat.zero_add];exact h j x s hx
theorem Lcw{α:Type}{f:Nat→Unit→Option (LS Unit Int)}(p:α→Bool)(l:List α)(h:∀ (j:Nat) x,l[j]?=some x→f j ()=some (if p x then .out (j:Int) else .go ())) :
  (bi (rangeI f (l.length:Int) ()) fun q=>goI q fun _=>some (-1))=some (ixZ p l):=by
 rw[Lcv (g:=fun j x _=>some (if p x then .out (j:Int) else .go ())) l (fun j x s hx=>h j x hx)]
 exact Lcu p l fun j x hx=>rfl
theorem Lcx{α:Type}(p:α→Bool)(g:α→Option Bool)(s:List α)(hg:∀ x∈s,g x=some (p x))(hs:s.length≤4294967296)
  {f:(List α)×Int×Int→Option (LS ((List α)×Int×Int) ((List α)×Int))}
  (hf:∀ s6,f s6=bif decide ((s6.2.2:Int)<(s6.1.length:Int)) then(bi (getZ s6.1 s6.2.2) fun x16=>bi (g x16) fun y19=>bif !y19 then(bi (getZ s6.1 s6.2.1) fun x22=>some (.go (s6.1.set s6.2.1.toNat x16,wi (s6.2.1+1),wi (s6.2.2+1)))) else(some (.go (s6.1,s6.2.1,wi (s6.2.2+1))))) else(some (.out (s6.1,s6.2.1)))) :
  ∀ (k:Nat) (a:List α) (i j:Nat),i≤j→j≤s.length→a.length=s.length→a.drop j=s.drop j→a.take i=(s.take j).filter (fun x=>!p x)→s.length - j<k→
   ∃ (a':List α) (i':Nat),loopM f k (a,(i:Int),(j:Int))=some (a',(i':Int))∧i'≤a'.length∧a'.take i'=s.filter (fun x=>!p x)
 | 0,a,i,j,_,_,_,_,_,h=>absurd h (Nat.not_lt_zero _)
 | k+1,a,i,j,h1,h2,h3,h4,h5,h6=>by
  unfold loopM
  rw[hf]
  by_cases hj:j<s.length
  ·have haj:a[j]?=some s[j]:=by
    have:=congrArg (fun q=>q[0]?) h4
    simpa [hj] using this
   have hw:wi ((j:Int)+1)=((j+1:Nat):Int):=by rw[Lbf (by omega) (by omega)];omega
   have hwi:wi ((i:Int)+1)=((i+1:Nat):Int):=by rw[Lbf (by omega) (by omega)];omega
   have hs1:s.take (j+1)=s.take j++[s[j]]:=by rw[List.take_add_one,gGe hj];rfl
   simp only
   rw[dT (show(j:Int)<(a.length:Int) by omega)]
   simp only[cond_true,getZ_cast,haj,bi_some,hg _ (List.getElem_mem hj),hw,hwi,Int.toNat_natCast]
   cases hp:p s[j] with
   | true=>
    simp only[Bool.not_true,cond_false]
    refine Lcx p g s hg hs hf k a i (j+1) (by omega) (by omega) h3 (by rw[←List.drop_drop,h4,List.drop_drop]) ?_ (by omega)
    rw[hs1,List.filter_append,h5];simp[hp]
   | false=>
    have hai:a[i]?=some (a[i]'(by omega)):=gGe _
    simp only[Bool.not_false,cond_true,hai,bi_some]
    refine Lcx p g s hg hs hf k (a.set i s[j]) (i+1) (j+1) (by omega) (by omega) (by rw[List.length_set];exact h3) ?_ ?_ (by omega)
    ·rw[List.drop_set_of_lt (by omega),←List.drop_drop,h4,List.drop_drop]
    ·rw[hs1,List.filter_append,←h5,List.take_add_one,gSs (by omega),List.take_set_of_le (Nat.le_refl _)]
     simp[hp]
  ·simp only
   rw[dF (show ¬ (j:Int)<(a.length:Int) by omega)]
   refine⟨a,i,rfl,by omega,?_⟩
   rw[h5,List.take_of_length_le (by omega)]
theorem Lcy{α:Type}(p:α→Bool)(g:α→Option Bool)(s:List α)(k:Nat)(hg:∀ x∈s,g x=some (p x))(hs:s.length≤4294967296)(hk:s.length<k) :
  (bif (ixZ p s:Int)==(-1) then(some s) else(bi (loopM (σ:=(List α)×Int×Int) (ρ:=(List α)×Int) (fun s6=>bif decide ((s6.2.2:Int)<(s6.1.length:Int)) then(bi (getZ s6.1 s6.2.2) fun x16=>bi (g x16) fun y19=>bif !y19 then(bi (getZ s6.1 s6.2.1) fun x22=>some (.go (s6.1.set s6.2.1.toNat x16,wi (s6.2.1+1),wi (s6.2.2+1)))) else(some (.go (s6.1,s6.2.1,wi (s6.2.2+1))))) else(some (.out (s6.1,s6.2.1)))) k (s,ixZ p s,wi (ixZ p s+1))) fun q8=>bi (subZ q8.1 q8.2 (q8.1.length:Int)) fun z27=>some (q8.1.take q8.2.toNat)))=some (s.filter fun x=>!p x):=by
 cases h:s.any p with
 | false=>
  rw[Lcq h]
  have:s.filter (fun x=>!p x)=s:=List.filter_eq_self.2 fun x hx=>by
   have:=List.any_eq_false.1 h x hx
   simpa using this
  rw[this];rfl
 | true=>
  obtain⟨i,a,e,h1,h2,h3,h4⟩:=Lcr h
  have hi:i<s.length:=(gEs.1 h2).1
  rw[e,show(((i:Int):Int)==(-1))=false by simp]
  rw[show wi ((i:Int)+1)=((i+1:Nat):Int) by rw[Lbf (by omega) (by omega)];omega]
  simp only[cond_false]
  obtain⟨a',i',h5,h6,h7⟩:=Lcx p g s hg hs (fun _=>rfl) k s i (i+1) (by omega) (by omega) rfl rfl (by
   have hs1:s.take (i+1)=s.take i++[a]:=by rw[List.take_add_one,h2];rfl
   rw[hs1,List.filter_append,List.filter_eq_self.2 fun x hx=>by
    have:=List.any_eq_false.1 h4 x hx
    simpa using this]
   simp[h3]) (by omega)
  rw[h5]
  simp only[bi_some]
  rw[Lac (by omega) (Nat.le_refl _)]
  simp only[bi_some,Int.toNat_natCast,h7]
def ups{α:Type}(q:α→Bool)(f:α→α)(y:α):List α→List α
 | []=>[y]
 | a :: l=>if q a then f a :: l else a :: ups q f y l
inductive F2 {α β:Type} (R:α→β→Prop):List α→List β→Prop
 | nil:F2 R [] []
 | cons {a:α} {b:β} {l:List α} {m:List β}:R a b→F2 R l m→F2 R (a :: l) (b :: m)
theorem F2.len{α β:Type}{R:α→β→Prop}{l:List α}{m:List β}(h:F2 R l m):l.length=m.length:=by
 induction h with
 | nil=>rfl
 | cons _ _ ih=>simp[ih]
theorem F2.at{α β:Type}{R:α→β→Prop}{l:List α}{m:List β}(h:F2 R l m):∀ {i:Nat} {a:α},l[i]?=some a→∃ b,m[i]?=some b∧R a b:=by
 induction h with
 | nil=>intro i a h;simp at h
 | cons hr _ ih=>
  intro i a h
  cases i with
  | zero=>simp only[List.getElem?_cons_zero,Option.some.injEq] at h;subst h;exact⟨_,by simp,hr⟩
  | succ i=>simpa using ih (by simpa using h)
theorem F2.filter{α β:Type}{R:α→β→Prop}{p:α→Bool}{q:β→Bool}{l:List α}{m:List β}(h:F2 R l m)(hp:∀ a b,R a b→p a=q b):F2 R (l.filter p) (m.filter q):=by
 induction h with
 | nil=>exact .nil
 | @cons a b l m hr _ ih=>
  simp only[List.filter_cons,hp a b hr]
  cases q b with
  | true=>exact .cons hr ih
  | false=>exact ih
theorem F2.any{α β:Type}{R:α→β→Prop}{p:α→Bool}{q:β→Bool}{l:List α}{m:List β}(h:F2 R l m)(hp:∀ a b,R a b→p a=q b):l.any p=m.any q:=by
 induction h with
 | nil=>rfl
 | @cons a b l m hr _ ih=>simp[hp a b hr,ih]
theorem F2.ups{α β:Type}{R:α→β→Prop}{p:α→Bool}{q:β→Bool}{f:α→α}{g:β→β}{y:α}{z:β}{l:List α}{m:List β}(h:F2 R l m)(hp:∀ a b,R a b→p a=q b)(hf:∀ a b,R a b→q b=true→R (f a) (g b))(hy:R y z):F2 R (ups p f y l) (ups q g z m):=by
 induction h with
 | nil=>exact .cons hy .nil
 | @cons a b l m hr ht ih=>
  simp only[Go.Gk.ups,hp a b hr]
  by_cases hq:q b=true
  ·simp only[hq,if_true];exact .cons (hf a b hr hq) ht
  simp only[Bool.not_eq_true] at hq;simp only[hq,Bool.false_eq_true,if_false];exact .cons hr ih
def Lv(al:List Bool)(ts:List Nat):Prop:=(∀ t∈ts,t=1∨∃ q,t=q+2∧al[q]?=some true)∧ts.Pairwise (fun a b=>a=b→a=1)
def Exl(n:Nat)(al al':List Bool):Prop:=al.length≤al'.length∧n≤al.length∧∀ q,q<n→al'[q]?=al[q]?
theorem Lv.ext{al al':List Bool}{ts:List Nat}(h:Lv al ts)(he:Exl al.length al al'):Lv al' ts:=by
 refine⟨fun t ht=>?_,h.2⟩
 rcases h.1 t ht with h | ⟨q,e,h⟩
 ·exact .inl h
 exact .inr ⟨q,e,by rw[he.2.2 q (gEs.1 h).1];exact h⟩
theorem Lv.sub{al:List Bool}{ts ts':List Nat}(h:Lv al ts)(hs:ts'.Sublist ts):Lv al ts':=⟨fun t ht=>h.1 t (hs.subset ht),h.2.sublist hs⟩
theorem Lv.one{al:List Bool}{ts:List Nat}(h:Lv al ts):Lv al (ts++[1]):=by
 refine⟨fun t ht=>?_,?_⟩
 ·rcases List.mem_append.1 ht with ht | ht
  ·exact h.1 t ht
  exact .inl (List.mem_singleton.1 ht)
 rw[List.pairwise_append]
 exact⟨h.2,List.pairwise_singleton _ _,fun a ha b hb e=>by rw[e];exact List.mem_singleton.1 hb⟩
theorem Lv.lt{al:List Bool}{ts:List Nat}(h:Lv al ts):∀ t∈ts,t<al.length+2:=fun t ht=>by
 rcases h.1 t ht with rfl | ⟨q,rfl,h⟩
 ·omega
 have:=(gEs.1 h).1;omega
theorem Lcz{α:Type}{R:α→α→Prop}{l:List α}(h:l.Pairwise R){i j:Nat}{a b:α}(hij:i<j)(ha:l[i]?=some a)(hb:l[j]?=some b):R a b:=by
 obtain⟨h1,rfl⟩:=gEs.1 ha
 obtain⟨h2,rfl⟩:=gEs.1 hb
 exact List.pairwise_iff_getElem.1 h i j h1 h2 hij
theorem Lda{α:Type}{R:α→α→Prop}{l:List α}(h:∀ (i j:Nat) (a b:α),i<j→l[i]?=some a→l[j]?=some b→R a b):l.Pairwise R:=
 List.pairwise_iff_getElem.2 fun i j h1 h2 hij=>h i j _ _ hij (gGe h1) (gGe h2)
theorem Lv.app{α:Type}{al:List Bool}{ts:List Nat}{i:Nat}{s:Tl α}(y:α)(h:Lv al ts)(hi:ts[i]?=some s.1)(hl:s.2.length<4294967296) :
  ∃ al',appT al s [y]=some ((al.length+2,s.2++[y]),al')∧Lv al' (ts.set i (al.length+2))∧al'.length=al.length+1∧∀ q,q<al.length→q+2≠s.1→al'[q]?=al[q]?:=by
 have hap:apd s.2 [y]=some (s.2++[y]):=Lbm (by simp;omega)
 have hlt:=h.lt
 have key:∀ al0:List Bool,al0.length=al.length→(∀ q,q<al.length→q+2≠s.1→al0[q]?=al[q]?)→Lv (al0++[true]) (ts.set i (al.length+2)):=by
  intro al0 hl0 hq
  have hil:i<ts.length:=(gEs.1 hi).1
  refine⟨fun t ht=>?_,Lda fun a b x z hab hx hz e=>?_⟩
  ·obtain⟨j,hj,e⟩:=List.getElem_of_mem ht
   rw[List.length_set] at hj
   by_cases hji:i=j
   ·subst hji
    rw[List.getElem_set_self] at e
    subst e
    exact .inr ⟨al.length,rfl,by rw[←hl0];simp⟩
   ·rw[List.getElem_set_ne hji] at e
    rcases h.1 t (e▸List.getElem_mem _) with h1 | ⟨q,e1,h1⟩
    ·exact .inl h1
    ·have hq1:=(gEs.1 h1).1
     refine .inr ⟨q,e1,?_⟩
     rw[gAl (by omega),hq q hq1 ?_]
     ·exact h1
     ·rw[←e1];intro e2
      have hj':ts[j]?=some t:=by rw[gGe hj,e]
      rcases Nat.lt_or_ge i j with h3 | h3
      ·have:=Lcz h.2 h3 hi hj' e2.symm;omega
      ·have:=Lcz h.2 (show j<i by omega) hj' hi e2;omega
  ·rw[List.getElem?_set] at hx hz
   by_cases h1:i=a
   ·subst h1
    rw[if_pos rfl,if_pos hil] at hx
    rw[if_neg (by omega)] at hz
    cases hx
    have:=hlt z (mOg hz);omega
   ·rw[if_neg h1] at hx
    by_cases h2:i=b
    ·subst h2
     rw[if_pos rfl,if_pos hil] at hz
     cases hz
     have:=hlt x (mOg hx);omega
    ·rw[if_neg h2] at hz
     exact Lcz h.2 hab hx hz e
 obtain⟨t,l⟩:=s
 unfold appT
 simp only at hap hi key ⊢
 rw[hap]
 simp only[bi_some,List.isEmpty_cons,cond_false]
 rcases h.1 t (mOg hi) with rfl | ⟨q,rfl,hq⟩
 ·exact⟨_,rfl,key al rfl fun _ _ _=>rfl,by simp,fun q hq _=>by rw[gAl hq]⟩
 ·simp only[hq,Option.getD_some,cond_true]
  refine⟨_,rfl,key _ (by simp) fun q' h1 h2=>by rw[gSn (by omega)],by simp,fun q' h1 h2=>by rw[gAl (by simpa using h1),gSn (by omega)]⟩
end Go.Gk
namespace Go.Gk
def Ok{α:Type}(m:Option α)(Q:α→Prop):Prop:=∃ r,m=some r∧Q r
def Two{α β:Type}(m:Option α)(n:Option β)(R:α→β→Prop):Prop:=∃ r q,m=some r∧n=some q∧R r q
section
variable{α β γ δ σ τ ρ ρ':Type}
theorem Ldk{r:α}{Q:α→Prop}(h:Q r):Ok (some r) Q:=⟨r,rfl,h⟩
theorem Ldl{m:Option α}{g:α→Option β}{P:α→Prop}{Q:β→Prop}(h:Ok m P)(k:∀ r,P r→Ok (g r) Q):Ok (bi m g) Q:=by
 obtain⟨r,rfl,hr⟩:=h
 exact k r hr
theorem Ldm{m:Option α}{g:α→Option β}{r:α}{Q:β→Prop}(h:m=some r)(k:Ok (g r) Q):Ok (bi m g) Q:=by subst h;exact k
theorem Ldn{m:Option α}{P Q:α→Prop}(h:Ok m P)(k:∀ r,P r→Q r):Ok m Q:=let ⟨r,h1,h2⟩:=h;⟨r,h1,k r h2⟩
theorem Ldo{b:Bool}{m n:Option α}{Q:α→Prop}(h1:b=true→Ok m Q)(h2:b=false→Ok n Q):Ok (bif b then m else n) Q:=by
 cases b with
 | true=>exact h1 rfl
 | false=>exact h2 rfl
theorem Ldp{b:Bool}{m:Option α}{Q:α→Prop}(hb:b=true)(h:Ok m Q):Ok (gd b m) Q:=by subst hb;exact h
theorem Ldq{f:Nat→α→σ→Option σ}{l:List α}{s:σ}(I:Nat→σ→Prop)(h0:I 0 s)(step:∀ (i:Nat) (x:α) (s:σ),l[i]?=some x→I i s→Ok (f i x s) (I (i+1))):Ok (rangeF f 0 l s) (I l.length):=by
 obtain⟨r,h1,h2⟩:=Kzy l I step l 0 s rfl h0
 exact⟨r,h1,by simpa using h2⟩
theorem Ldr{f:Nat→σ→Option σ}{n:Int}{s:σ}(I:Nat→σ→Prop)(h0:I 0 s)(step:∀ (i:Nat) (s:σ),i<n.toNat→I i s→Ok (f i s) (I (i+1))):Ok (rangeG f n s) (I n.toNat):=Kzz I h0 step
theorem Lds{f:Nat→α→σ→Option (LS σ ρ)}{l:List α}{s:σ}(I:Nat→σ→Prop)(Q:ρ→Prop)(h0:I 0 s)
  (step:∀ (i:Nat) (x:α) (s:σ),l[i]?=some x→I i s→Ok (f i x s) fun r=>match r with | .go s'=>I (i+1) s' | .out q=>Q q):Ok (rangeM f 0 l s) fun r=>match r with | .go s'=>I l.length s' | .out q=>Q q:=by
 rcases Laa l I Q (fun i x s hx hi=>by
  obtain⟨r,h1,h2⟩:=step i x s hx hi
  cases r with
  | go s'=>exact .inl ⟨s',h1,h2⟩
  | out q=>exact .inr ⟨q,h1,h2⟩) l 0 s rfl h0 with⟨s',h1,h2⟩ | ⟨q,h1,h2⟩
 ·exact⟨_,h1,by simpa using h2⟩
 ·exact⟨_,h1,h2⟩
theorem Ldt{f:σ→Option (LS σ ρ)}{k:Nat}{s:σ}(I:σ→Prop)(μ:σ→Nat)(Q:ρ→Prop)(h0:I s)(hk:μ s<k)(step:∀ s,I s→Ok (f s) fun r=>match r with | .go s'=>I s'∧μ s'<μ s | .out q=>Q q):Ok (loopM f k s) Q:=
 Kzw I μ Q (fun s hi=>by
  obtain⟨r,h1,h2⟩:=step s hi
  cases r with
  | go s'=>exact .inr ⟨s',h1,h2.1,h2.2⟩
  | out q=>exact .inl ⟨q,h1,h2⟩) k s hk h0
theorem Ldu{l:List α}{i:Int}{j:Nat}{x:α}{g:α→Option β}{Q:β→Prop}(hi:i=(j:Int))(h:l[j]?=some x)(k:Ok (g x) Q):Ok (bi (getZ l i) g) Q:=Ldm (Lae hi h) k
theorem Ldv{a b:List α}{g:List α→Option β}{Q:β→Prop}(h:a.length+b.length≤4294967296)(k:Ok (g (a++b)) Q):Ok (bi (apd a b) g) Q:=Ldm (Lbm h) k
theorem Ldw{r:α}{q:β}{R:α→β→Prop}(h:R r q):Two (some r) (some q) R:=⟨r,q,rfl,rfl,h⟩
theorem Ldx{m:Option α}{g:β→Option γ}{n:Option β}{r:β}{R:α→γ→Prop}(h:n=some r)(k:Two m (g r) R):Two m (bi n g) R:=by subst h;exact k
theorem Ldy{m:Option α}{n:Option β}{g:α→Option γ}{h:β→Option δ}{P:α→β→Prop}{R:γ→δ→Prop}(hm:Two m n P)(k:∀ r q,P r q→Two (g r) (h q) R):Two (bi m g) (bi n h) R:=by
 obtain⟨r,q,rfl,rfl,hr⟩:=hm
 exact k r q hr
theorem Ldz{b c:Bool}{m m':Option α}{n n':Option β}{R:α→β→Prop}(hbc:b=c)(h1:b=true→Two m n R)(h2:b=false→Two m' n' R):Two (bif b then m else m') (bif c then n else n') R:=by
 subst hbc
 cases b with
 | true=>exact h1 rfl
 | false=>exact h2 rfl
def LSR(I:σ→τ→Prop)(Q:ρ→ρ'→Prop):LS σ ρ→LS τ ρ'→Prop
 | .go s,.go t=>I s t
 | .out r,.out q=>Q r q
 | _,_=>False
theorem Lea{f:Nat→α→σ→Option (LS σ ρ)}{g:Nat→α→τ→Option (LS τ ρ')}{l:List α}{s:σ}{t:τ}(I:Nat→σ→τ→Prop)(Q:ρ→ρ'→Prop)(h0:I 0 s t)
  (step:∀ (i:Nat) (x:α) (s:σ) (t:τ),l[i]?=some x→I i s t→Two (f i x s) (g i x t) (LSR (I (i+1)) Q)):Two (rangeM f 0 l s) (rangeM g 0 l t) (LSR (I l.length) Q):=by
 rcases Lab l I Q (fun i x s t hx hi=>by
  obtain⟨r,q,h1,h2,h3⟩:=step i x s t hx hi
  cases r<;>cases q<;>first | exact h3.elim | exact .inl ⟨_,_,h1,h2,h3⟩ | exact .inr ⟨_,_,h1,h2,h3⟩) l 0 s t rfl h0 with⟨s',t',h1,h2,h3⟩ | ⟨r,q,h1,h2,h3⟩
 ·exact⟨_,_,h1,h2,by simpa [LSR] using h3⟩
 ·exact⟨_,_,h1,h2,h3⟩
end
def At(l:List Int)(a b:Int)(s:Lev):Prop:=s.L=l∧a≤s.v_at∧s.v_at≤b
theorem At.eq{l:List Int}{a b:Int}{s:Lev}(h:At l a b s):s=⟨l,s.v_at⟩:=by rw[←h.1]
theorem At.up{l:List Int}{a b a' b':Int}{s:Lev}(h:At l a b s)(h1:a'≤a)(h2:b≤b'):At l a' b' s:=⟨h.1,by have:=h.2.1;omega,by have:=h.2.2;omega⟩
theorem Leb{l:List Int}{a b:Int}{s:Lev}(h:At l a b s)(n:Int)(hl:l.length≤9223372036854775807)(h0:0≤a)(h1:b<4611686018427387904)(hn:1≤n)(hn2:n≤4611686018427387904) :
  Ok (Lfp s n) fun r=>At l (a+1) (b+1) r.2:=by
 obtain⟨e1,e2,e3⟩:=h
 obtain⟨c,hc⟩:=Lbi l s.v_at n hl (by omega) (by omega) hn hn2
 rw[←e1] at hc
 exact⟨_,hc,e1,by simp only;omega,by simp only;omega⟩
theorem Lec{l:List Int}{a b:Int}{s:Lev}(h:At l a b s)(xs:List Int)(hl:l.length≤9223372036854775807)(h0:0≤a)(h1:b<4611686018427387904)(hn:1≤xs.length)(hn2:xs.length≤1000) :
  Ok (Lfo s xs) fun r=>r.1∈xs∧At l (a+1) (b+1) r.2:=by
 obtain⟨e1,e2,e3⟩:=h
 obtain⟨c,hc,hp⟩:=Lbl l s.v_at xs hl (by omega) (by omega) hn hn2
 rw[←e1] at hp
 exact⟨_,hp,hc,e1,by simp only;omega,by simp only;omega⟩
theorem Led{l:List Int}{a b:Int}{s:Lev}(h:At l a b s)(xs:List Str)(hl:l.length≤9223372036854775807)(h0:0≤a)(h1:b<4611686018427387904)(hn:1≤xs.length)(hn2:xs.length≤1000) :
  Ok (Lfr s xs) fun r=>r.1∈xs∧At l (a+1) (b+1) r.2:=by
 obtain⟨e1,e2,e3⟩:=h
 obtain⟨c,hc,hp⟩:=Lbk l s.v_at xs hl (by omega) (by omega) hn hn2
 rw[←e1] at hp
 exact⟨_,hp,hc,e1,by simp only;omega,by simp only;omega⟩
theorem Lee{l:List Int}{a b:Int}{s:Lev}(h:At l a b s)(lo hi:Int)(hl:l.length≤9223372036854775807)(h0:0≤a)(h1:b<4611686018427387904)(h2:lo≤hi)(h3 : -1000000000≤lo)(h4:hi≤1000000000) :
  Ok (Lfn s lo hi) fun r=>lo≤r.1∧r.1≤hi∧At l (a+1) (b+1) r.2:=by
 obtain⟨e1,e2,e3⟩:=h
 obtain⟨c,c1,c2,hp⟩:=Lbn l s.v_at lo hi hl (by omega) (by omega) h2 h3 h4
 rw[←e1] at hp
 exact⟨_,hp,c1,c2,e1,by simp only;omega,by simp only;omega⟩
end Go.Gk
namespace Go.Gk
def keyT:List Str:=[[115,49],[115,50],[],[97,110,110],[98,111,98],[99,105,100],[122,101,100],[65],[110,97],[110,98],[110,99],[110,100],[107,49],[107,50],[98,111,120],[119,101,98],[109,97,99],[100,98],[110,111,110,101],[97],[98],[122,122]]
theorem Lcl:∀ x∈keyT,∃ b,Lha 400 x=some b∧Lgg x=some b:=by
 intro x hx
 simp only[keyT,List.mem_cons,List.not_mem_nil,or_false] at hx
 rcases hx with rfl | rfl | rfl | rfl | rfl | rfl | rfl | rfl | rfl | rfl | rfl | rfl | rfl | rfl | rfl | rfl | rfl | rfl | rfl | rfl | rfl | rfl<;>exact⟨_,rfl,rfl⟩
def pubT:List Str:=[[48,97],[48,98],[48,99],[48,100],[48,101],[49,97],[49,98],[],[120,121,122],[48,65],List.replicate 21 97]
theorem Lcm:∀ x∈pubT,∃ b,Lhh x=some b∧Lgp x=some b:=by
 intro x hx
 simp only[pubT,List.mem_cons,List.not_mem_nil,or_false] at hx
 rcases hx with rfl | rfl | rfl | rfl | rfl | rfl | rfl | rfl | rfl | rfl | rfl<;>exact⟨_,rfl,rfl⟩
def tagsT:List (List Str):=[[],[[119,101,98]],[[100,98]],[[100,98],[119,101,98]],[[110,111,110,101]],[[119,101,98],[100,98]],[[]],[[97],[98]]]
theorem Lcn:∀ x∈tagsT,∃ e,Lhb 400 x=some e∧Lgh x=some e∧x.length≤10:=by
 intro x hx
 simp only[tagsT,List.mem_cons,List.not_mem_nil,or_false] at hx
 rcases hx with rfl | rfl | rfl | rfl | rfl | rfl | rfl | rfl<;>exact⟨_,rfl,rfl,by decide⟩
def ndT:List Str:=[[],[110,97],[110,98],[110,99],[110,100]]
def jnT:List Str:=[[],[107,49],[107,50]]
theorem Lco:∀ x∈ndT,x∈keyT:=by decide
theorem Lcp:∀ x∈jnT,x∈keyT:=by decide
structure StepOk(s:Ley):Prop where
 sv:s.Server∈keyT
 by_:s.By∈keyT
 nd:s.Node∈ndT
 jn:s.Join∈jnT
 nm:s.Name∈keyT
 pb:s.Public∈pubT
 tg:s.Tags∈tagsT
end Go.Gk
namespace Go.Gk
theorem rf98(s:Ley):Lgq s 98=Lgo s.By:=by
 unfold Lgq
 show bi (bi (Lgo s.By) fun y13=>bi (some y13) fun v=>some (.inr v)) (fun q=>orI q fun a3=>some 0)=_
 cases Lgo s.By<;>rfl
theorem Lqz(s:Ley):Lgq s 110=Lgo s.Node:=by
 unfold Lgq
 show bi (bi (Lgo s.Node) fun y13=>bi (some y13) fun v=>some (.inr v)) (fun q=>orI q fun a3=>some 0)=_
 cases Lgo s.Node<;>rfl
theorem Lra(s:Ley):Lgq s 106=Lgo s.Join:=by
 unfold Lgq
 show bi (bi (Lgo s.Join) fun y13=>bi (some y13) fun v=>some (.inr v)) (fun q=>orI q fun a3=>some 0)=_
 cases Lgo s.Join<;>rfl
theorem Lrb(s:Ley):Lgq s 109=Lgo s.Name:=by
 unfold Lgq
 show bi (bi (Lgo s.Name) fun y13=>bi (some y13) fun v=>some (.inr v)) (fun q=>orI q fun a3=>some 0)=_
 cases Lgo s.Name<;>rfl
theorem rf66(s:Ley):Lgq s 66=bif !(s.By==[]) then Lgo s.By else some 0:=by
 unfold Lgq
 show bi (bif !(s.By==[]) then(bi (Lgo s.By) fun y24=>bi (some y24) fun v=>some (.inr v)) else(some (.inl ()))) (fun q=>orI q fun a3=>some 0)=_
 cases (s.By==[])<;>cases Lgo s.By<;>rfl
theorem rf74(s:Ley):Lgq s 74=bif !(s.Join==[]) then Lgo s.Join else some 0:=by
 unfold Lgq
 show bi (bif !(s.Join==[]) then(bi (Lgo s.Join) fun y24=>bi (some y24) fun v=>some (.inr v)) else(some (.inl ()))) (fun q=>orI q fun a3=>some 0)=_
 cases (s.Join==[])<;>cases Lgo s.Join<;>rfl
theorem Lrc(s:Ley){b:Bool}(h:Lgp s.Public=some b):Lgq s 112=some (bif b then 0 else 5):=by
 unfold Lgq
 rw[h]
 cases b<;>rfl
theorem Lrd(s:Ley){e:Int}(h:Lgh s.Tags=some e)(hl:s.Tags.length≤10):Lgq s 116=some e:=by
 unfold Lgq
 rw[h,dF (show ¬ ((s.Tags.length:Int)>10) by omega)]
 rfl
theorem Lre(s:Ley):Lgq s 117=some (bif !(decide (0≤s.Until)&&decide (s.Until≤999999999)) then 1 else 0):=by
 unfold Lgq
 show bi (bif !(decide (0≤s.Until)&&decide (s.Until≤999999999)) then(bi (some 1) fun v=>some (.inr v)) else(some (.inl ()))) (fun q=>orI q fun a3=>some 0)=_
 cases (decide (0≤s.Until)&&decide (s.Until≤999999999))<;>rfl
theorem Lrf(s:Ley):Lgq s 115=some (bif !(decide (0≤s.Uses)&&decide (s.Uses≤999999999)) then 1 else 0):=by
 unfold Lgq
 show bi (bif !(decide (0≤s.Uses)&&decide (s.Uses≤999999999)) then(bi (some 1) fun v=>some (.inr v)) else(some (.inl ()))) (fun q=>orI q fun a3=>some 0)=_
 cases (decide (0≤s.Uses)&&decide (s.Uses≤999999999))<;>rfl
theorem Lrg(s:Ley):Lgq s 114=some 0:=by
 unfold Lgq
 rfl
theorem Lbt{x:Str}{b:Bool}(h:Lgg x=some b):Lgo x=some (bif b then 0 else 5):=by
 unfold Lgo;rw[h];cases b<;>rfl
theorem Lbu{x:Str}{b e:Bool}(h:Lha 400 x=some b):Lhg 400 x e=some (bif b||(e&&(x==[])) then 0 else 5):=by
 unfold Lhg;rw[h];cases b<;>cases e<;>cases (x==[])<;>rfl
theorem pf0(s:Ley){b:Bool}(h:Lha 400 s.By=some b):Lhk 400 s 0=some (bif b||((s.Kind==3)&&(s.By==[])) then 0 else 5):=by
 unfold Lhk;rw[Lbu h];rfl
theorem pf1(s:Ley){b:Bool}(h:Lha 400 s.Node=some b):Lhk 400 s 1=some (bif b then 0 else 5):=by
 unfold Lhk;rw[Lbu h];cases b<;>rfl
theorem pf2(s:Ley){b:Bool}(h:Lha 400 s.Join=some b):Lhk 400 s 2=some (bif b||((s.Kind==3)&&(s.Join==[])) then 0 else 5):=by
 unfold Lhk;rw[Lbu h];rfl
theorem pf3(s:Ley){b:Bool}(h:Lhh s.Public=some b):Lhk 400 s 3=some (bif b then 0 else 5):=by
 unfold Lhk;rw[h];cases b<;>rfl
theorem pf4(s:Ley){b:Bool}(h:Lha 400 s.Name=some b):Lhk 400 s 4=some (bif b then 0 else 5):=by
 unfold Lhk;rw[Lbu h];cases b<;>rfl
theorem pf5(s:Ley){e:Int}(h:Lhb 400 s.Tags=some e)(hl:s.Tags.length≤10):Lhk 400 s 5=some e:=by
 have:Lhi 400 s.Tags=some e:=by
  unfold Lhi
  rw[h,dF (show ¬ ((s.Tags.length:Int)>10) by omega)]
  rfl
 unfold Lhk;rw[this];rfl
theorem pnum(n:Int):Lhj n=some (bif !(decide (0≤n)&&decide (n≤999999999)) then 1 else 0):=by
 unfold Lhj Lhc
 by_cases h1:0≤n<;>by_cases h2:n≤999999999<;>simp[h1,h2,bi_some,show(n<0)=¬ (0≤n) from by simp,show(n>999999999)=¬ (n≤999999999) from by simp]
theorem pf6(s:Ley):Lhk 400 s 6=some (bif !(decide (0≤s.Until)&&decide (s.Until≤999999999)) then 1 else 0):=by
 unfold Lhk;rw[pnum s.Until];rfl
theorem pf7(s:Ley):Lhk 400 s 7=some (bif !(decide (0≤s.Uses)&&decide (s.Uses≤999999999)) then 1 else 0):=by
 unfold Lhk;rw[pnum s.Uses];rfl
theorem pf8(s:Ley):Lhk 400 s 8=some 0:=by
 unfold Lhk;rfl
theorem Lbv{α σ ρ:Type}{f:α→σ→Option (LS σ ρ)}(bad:α→Bool)(v:ρ)(s:σ)(m:List α)(hf:∀ x∈m,f x s=some (bif bad x then .out v else .go s)):rangePM f m s=some (bif m.any bad then .out v else .go s):=by
 refine Klk.2 fun m' hp=>?_
 rw[←hp.any_eq]
 have hf':∀ x∈m',f x s=some (bif bad x then .out v else .go s):=fun x hx=>hf x (hp.mem_iff.1 hx)
 clear hp hf
 induction m' with
 | nil=>rfl
 | cons x m' ih=>
  simp only[rangeLM,hf' x List.mem_cons_self,List.any_cons]
  cases bad x with
  | true=>rfl
  | false=>exact ih fun y hy=>hf' y (mCo _ hy)
end Go.Gk
namespace Go.Gk
def idleB(s:Ley)(f:Int):Bool:=bif f==0 then s.By==[] else bif f==1 then s.Node==[] else bif f==2 then s.Join==[] else bif f==3 then s.Public==[] else bif f==4 then s.Name==[] else bif f==5 then(s.Tags.length:Int)==0 else bif f==6 then s.Until==0 else bif f==7 then s.Uses==0 else !s.Ready
theorem Lbw(s:Ley)(f:Int):Lhn s f=some (idleB s f):=by
 unfold Lhn idleB
 cases (f==0)<;>cases (f==1)<;>cases (f==2)<;>cases (f==3)<;>cases (f==4)<;>cases (f==5)<;>cases (f==6)<;>cases (f==7)<;>rfl
theorem Lbx(l:List Int)(v:Int):Lhm l v=some (l.contains v):=by
 have key:∀ (l:List Int) (i:Nat),∃ r,rangeM (σ:=Unit) (ρ:=Int) (fun i1 x3 s2=>bif (v:Int)==x3 then(bi (some (i1:Int)) fun v=>some (.out v)) else(some (.go ()))) i l ()=some r∧((∃ j:Int,r=.out j∧0≤j∧l.contains v=true)∨(r=.go ()∧l.contains v=false)):=by
  intro l
  induction l with
  | nil=>intro i;exact⟨_,rfl,.inr ⟨rfl,rfl⟩⟩
  | cons x l ih=>
   intro i
   simp only[rangeM,List.contains_cons]
   cases hx:(v==x) with
   | true=>exact⟨_,rfl,.inl ⟨_,rfl,by omega,rfl⟩⟩
   | false=>
    obtain⟨r,h1,h2⟩:=ih (i+1)
    exact⟨r,h1,by simpa using h2⟩
 unfold Lhm Lhl
 obtain⟨r,h1,h2⟩:=key l 0
 rw[h1]
 rcases h2 with⟨j,rfl,hj,hc⟩ | ⟨rfl,hc⟩
 ·show some (decide (j≥0))=_
  rw[hc,dT hj]
 rw[hc];rfl
theorem Lby{ρ:Type}{f:Int→Option (LS Int ρ)}(bad:Int→Bool)(v w:ρ)(n:Nat)(hn:n≤1000)(hf:∀ s:Int,f s=bif decide (s<(n:Int)) then(bif bad s then some (.out v) else some (.go (wi (s+1)))) else some (.out w)) :
  ∀ (d i k:Nat),i+d=n→d<k→loopM f k (i:Int)=some (bif (List.range' i d).any (fun j=>bad (j:Int)) then v else w)
 | 0,i,k+1,hi,hk=>by
  simp only[loopM,hf,decide_eq_false (show ¬ (i:Int)<(n:Int) by omega),cond_false]
  rfl
 | d+1,i,k+1,hi,hk=>by
  simp only[loopM,hf,decide_eq_true (show(i:Int)<(n:Int) by omega),cond_true]
  have ih:=Lby bad v w n hn hf d (i+1) k (by omega) (by omega)
  rw[List.range'_succ,List.any_cons]
  cases hb:bad (i:Int) with
  | true=>rfl
  | false=>
   simp only[cond_false,Bool.false_or]
   rw[Lbf (by omega) (by omega)]
   exact ih
theorem Lbz(s:Ley)(used:List Int):loopM (σ:=Int) (ρ:=Unit ⊕ Int) (fun s37=>bif decide ((s37:Int)<9) then(bi (Lhm used s37) fun y47=>bi (bif !y47 then(bi (Lhn s s37) fun y52=>some (!y52)) else(some false)) fun q49=>bif q49 then(bi (some 3) fun v=>some (.out (.inr v))) else(some (.go (wi (s37+1))))) else(some (.out (.inl ())))) 400 0 =
  some (bif (List.range' 0 9).any (fun j=>!(used.contains (j:Int))&&!idleB s (j:Int)) then .inr 3 else .inl ()):=by
 refine Lby (fun x=>!(used.contains x)&&!idleB s x) (Sum.inr 3:Unit ⊕ Int) (Sum.inl ()) 9 (by decide) (fun x=>?_) 9 0 400 rfl (by decide)
 rw[Lbx,Lbw]
 cases used.contains x<;>cases idleB s x<;>rfl
end Go.Gk
namespace Go.Gk
def outF(vals:List Int):LS Unit Int:=match vals.find? (fun y=>(y:Int) != 0) with
 | some e=>.out e
 | none=>.go ()
theorem Lca{α:Type}{f:Nat→α→Unit→Option (LS Unit Int)}(F:α→Option Int)(hf:∀ i x,f i x ()=bi (F x) fun y=>bif (y:Int) != 0 then(bi (some y) fun v=>some (.out v)) else(some (.go ()))) :
  ∀ (l:List α) (i:Nat) (vals:List Int),l.map F=vals.map some→rangeM f i l ()=some (outF vals)
 | [],i,[],_=>rfl
 | [],i,_ :: _,h=>by cases h
 | _ :: _,i,[],h=>by cases h
 | x :: l,i,v :: vals,h=>by
  simp only[List.map_cons,List.cons.injEq] at h
  simp only[rangeM,hf,h.1,bi_some,outF,List.find?_cons]
  cases (v != 0) with
  | true=>rfl
  | false=>exact Lca F hf l (i+1) vals h.2
def ltr:List Int:=[98,110,106,112,109,116,117,115,114]
def idleM(s:Ley):List (Int×Bool):=[(98,(s.By:Str)==[]),(106,(s.Join:Str)==[]),(109,(s.Name:Str)==[]),(110,(s.Node:Str)==[]),(112,(s.Public:Str)==[]),(114,!s.Ready),(115,(s.Uses:Int)==0),(116,((s.Tags.length:Int):Int)==0),(117,(s.Until:Int)==0)]
theorem Lcb(a b c d e x y z w:Bool):mSet (mSet (mSet (mSet (mSet (mSet (mSet (mSet (mSet ([]:List (Int×Bool)) 98 a) 110 b) 106 c) 112 d) 109 e) 116 x) 117 y) 115 z) 114 w=[(98,a),(106,c),(109,e),(110,b),(112,d),(114,w),(115,z),(116,x),(117,y)]:=by
 have e0:mSet ([]:List (Int×Bool)) 98 a=[(98,a)]:=rfl
 have e1:mSet ([(98,a)]:List (Int×Bool)) 110 b=[(98,a),(110,b)]:=rfl
 have e2:mSet ([(98,a),(110,b)]:List (Int×Bool)) 106 c=[(98,a),(106,c),(110,b)]:=rfl
 have e3:mSet ([(98,a),(106,c),(110,b)]:List (Int×Bool)) 112 d=[(98,a),(106,c),(110,b),(112,d)]:=rfl
 have e4:mSet ([(98,a),(106,c),(110,b),(112,d)]:List (Int×Bool)) 109 e=[(98,a),(106,c),(109,e),(110,b),(112,d)]:=rfl
 have e5:mSet ([(98,a),(106,c),(109,e),(110,b),(112,d)]:List (Int×Bool)) 116 x=[(98,a),(106,c),(109,e),(110,b),(112,d),(116,x)]:=rfl
 have e6:mSet ([(98,a),(106,c),(109,e),(110,b),(112,d),(116,x)]:List (Int×Bool)) 117 y=[(98,a),(106,c),(109,e),(110,b),(112,d),(116,x),(117,y)]:=rfl
 have e7:mSet ([(98,a),(106,c),(109,e),(110,b),(112,d),(116,x),(117,y)]:List (Int×Bool)) 115 z=[(98,a),(106,c),(109,e),(110,b),(112,d),(115,z),(116,x),(117,y)]:=rfl
 have e8:mSet ([(98,a),(106,c),(109,e),(110,b),(112,d),(115,z),(116,x),(117,y)]:List (Int×Bool)) 114 w=[(98,a),(106,c),(109,e),(110,b),(112,d),(114,w),(115,z),(116,x),(117,y)]:=rfl
 rw[e0,e1,e2,e3,e4,e5,e6,e7,e8]
theorem Lcc(s:Ley):mSet (mSet (mSet (mSet (mSet (mSet (mSet (mSet (mSet ([]:List (Int×Bool)) 98 ((s.By:Str)==[])) 110 ((s.Node:Str)==[])) 106 ((s.Join:Str)==[])) 112 ((s.Public:Str)==[])) 109 ((s.Name:Str)==[])) 116 (((s.Tags.length:Int):Int)==0)) 117 ((s.Until:Int)==0)) 115 ((s.Uses:Int)==0)) 114 (!s.Ready)=idleM s:=Lcb _ _ _ _ _ _ _ _ _
theorem Lrh(f:Nat→Bool)(a b c d e x y z w:Bool):(!(f 0)&&!a||(!(f 1)&&!b||(!(f 2)&&!c||(!(f 3)&&!d||(!(f 4)&&!e||(!(f 5)&&!x||(!(f 6)&&!y||(!(f 7)&&!z||(!(f 8)&&!w||false))))))))) =
  (!a&&!(f 0)||(!c&&!(f 2)||(!e&&!(f 4)||(!b&&!(f 1)||(!d&&!(f 3)||(!w&&!(f 8)||(!z&&!(f 7)||(!x&&!(f 5)||(!y&&!(f 6)||false))))))))):=by
 generalize f 0=f0;generalize f 1=f1;generalize f 2=f2;generalize f 3=f3;generalize f 4=f4;generalize f 5=f5;generalize f 6=f6;generalize f 7=f7;generalize f 8=f8
 cases f0<;>cases f1<;>cases f2<;>cases f3<;>cases f4<;>cases f5<;>cases f6<;>cases f7<;>cases f8<;>simp[Bool.or_comm,Bool.or_left_comm,Bool.or_assoc]
theorem Lcd(s:Ley)(fl:List Int)(lo:Str)(hx:∀ j<9,decide ((Lib.indexByte lo ((ltr.getD j 0).toNat.toUInt8):Int)<0)=!(fl.contains (j:Int))) :
  (List.range' 0 9).any (fun j=>!(fl.contains (j:Int))&&!idleB s (j:Int))=(idleM s).any fun x=>!x.2&&decide ((Lib.indexByte lo (x.1.toNat.toUInt8):Int)<0):=by
 have h0:=hx 0 (by decide);have h1:=hx 1 (by decide);have h2:=hx 2 (by decide);have h3:=hx 3 (by decide);have h4:=hx 4 (by decide)
 have h5:=hx 5 (by decide);have h6:=hx 6 (by decide);have h7:=hx 7 (by decide);have h8:=hx 8 (by decide)
 have key:=Lrh (fun j=>fl.contains (j:Int)) ((s.By:Str)==[]) ((s.Node:Str)==[]) ((s.Join:Str)==[]) ((s.Public:Str)==[]) ((s.Name:Str)==[]) (((s.Tags.length:Int):Int)==0) ((s.Until:Int)==0) ((s.Uses:Int)==0) (!s.Ready)
 refine Eq.trans key ?_
 show(!_&&!(fl.contains ((0:Nat):Int))||(!_&&!(fl.contains ((2:Nat):Int))||(!_&&!(fl.contains ((4:Nat):Int))||(!_&&!(fl.contains ((1:Nat):Int))||(!_&&!(fl.contains ((3:Nat):Int))||(!_&&!(fl.contains ((8:Nat):Int))||(!_&&!(fl.contains ((7:Nat):Int))||(!_&&!(fl.contains ((5:Nat):Int))||(!_&&!(fl.contains ((6:Nat):Int))||false)))))))))=_
 rw[←h0,←h1,←h2,←h3,←h4,←h5,←h6,←h7,←h8]
 rfl
theorem Lce(s:Ley)(fl vals:List Int)(h:fl.map (Lhk 400 s)=vals.map some) :
  (bi (rangeM (σ:=Unit) (ρ:=Int) (fun i19 x21 s20=>bi (Lhk 400 s x21) fun y30=>bif (y30:Int) != 0 then(bi (some y30) fun v=>some (.out v)) else(some (.go ()))) 0 fl ()) fun q=>goI q fun a24=>bi (loopM (σ:=Int) (ρ:=Unit ⊕ Int) (fun s37=>bif decide ((s37:Int)<9) then(bi (Lhm fl s37) fun y47=>bi (bif !y47 then(bi (Lhn s s37) fun y52=>some (!y52)) else(some false)) fun q49=>bif q49 then(bi (some 3) fun v=>some (.out (.inr v))) else(some (.go (wi (s37+1))))) else(some (.out (.inl ())))) 400 0) fun q=>orI q fun a41=>some 0) =
  some (match vals.find? (fun y=>(y:Int) != 0) with | some e=>e | none=>bif (List.range' 0 9).any (fun j=>!(fl.contains (j:Int))&&!idleB s (j:Int)) then 3 else 0):=by
 rw[Lca (Lhk 400 s) (fun i x=>rfl) fl 0 vals h,Lbz]
 unfold outF
 cases vals.find? (fun y=>(y:Int) != 0) with
 | some e=>rfl
 | none=>cases (List.range' 0 9).any (fun j=>!(fl.contains (j:Int))&&!idleB s (j:Int))<;>rfl
theorem Lcf(s:Ley)(us lo:Str)(vals:List Int)(ha:asc us=true)(hl:Krc us=some lo)(hu:Lgn s.Kind=some us)(h:us.map (fun x=>Lgq s (x.toNat:Int))=vals.map some) :
  gd (asc us) (bi (rangeM (σ:=Unit) (ρ:=Int) (fun sn23 x22 s21=>bi (Lgq s (x22.toNat:Int)) fun y63=>bif (y63:Int) != 0 then(bi (some y63) fun v=>some (.out v)) else(some (.go ()))) 0 us ()) fun q=>goI q fun s21=>bi (Lgn s.Kind) fun y30=>bi (Krc y30) fun y32=>bi (rangePM (σ:=Unit) (ρ:=Int) (fun x41 s40=>bi (bif !x41.2 then(bi (Kqz y32 x41.1) fun y54=>some (decide ((y54:Int)<0))) else(some false)) fun q51=>bif q51 then(bi (some 3) fun v=>some (.out v)) else(some (.go ()))) (mSet (mSet (mSet (mSet (mSet (mSet (mSet (mSet (mSet ([]:List (Int×Bool)) 98 ((s.By:Str)==[])) 110 ((s.Node:Str)==[])) 106 ((s.Join:Str)==[])) 112 ((s.Public:Str)==[])) 109 ((s.Name:Str)==[])) 116 (((s.Tags.length:Int):Int)==0)) 117 ((s.Until:Int)==0)) 115 ((s.Uses:Int)==0)) 114 (!s.Ready)) ()) fun q=>goI q fun s40=>some 0) =
  some (match vals.find? (fun y=>(y:Int) != 0) with | some e=>e | none=>bif (idleM s).any (fun x=>!x.2&&decide ((Lib.indexByte lo (x.1.toNat.toUInt8):Int)<0)) then 3 else 0):=by
 rw[ha,Lca (fun x:UInt8=>Lgq s (x.toNat:Int)) (fun i x=>rfl) us 0 vals h,hu,Lcc]
 simp only[bi_some,hl]
 rw[Lbv (f:=_) (fun x:Int×Bool=>!x.2&&decide ((Lib.indexByte lo (x.1.toNat.toUInt8):Int)<0)) 3 () (idleM s) (fun x _=>by
  unfold Kqz
  cases x.2<;>simp only[Bool.not_true,Bool.not_false,cond_true,cond_false,bi_some,Bool.true_and,Bool.false_and]
  cases decide ((Lib.indexByte lo (x.1.toNat.toUInt8):Int)<0)<;>rfl)]
 unfold outF
 cases vals.find? (fun y=>(y:Int) != 0) with
 | some e=>rfl
 | none=>cases (idleM s).any (fun x=>!x.2&&decide ((Lib.indexByte lo (x.1.toNat.toUInt8):Int)<0))<;>rfl
theorem Lri{s:Ley}{m n:Option Int}{fl vals:List Int}{lo:Str}(hx:∀ j<9,decide ((Lib.indexByte lo ((ltr.getD j 0).toNat.toUInt8):Int)<0)=!(fl.contains (j:Int)))
  (h1:m=some (match vals.find? (fun y=>(y:Int) != 0) with | some e=>e | none=>bif (List.range' 0 9).any (fun j=>!(fl.contains (j:Int))&&!idleB s (j:Int)) then 3 else 0))
  (h2:n=some (match vals.find? (fun y=>(y:Int) != 0) with | some e=>e | none=>bif (idleM s).any (fun x=>!x.2&&decide ((Lib.indexByte lo (x.1.toNat.toUInt8):Int)<0)) then 3 else 0)):∃ e,m=some e∧n=some e:=by
 rw[Lcd s fl lo hx] at h1
 exact⟨_,h1,h2⟩
end Go.Gk
namespace Go.Gk
theorem Lcg(n:Int):∃ b,Lhe n=some b∧Lgm n=some b:=by
 refine⟨_,rfl,?_⟩
 unfold Lgm Lge
 rw[bi_some,Option.some.injEq,Bool.eq_iff_iff]
 simp;omega
theorem Lch{x:Str}{b:Bool}(h:Lgg x=some b)(h0:(x==[])=true):b=false:=by
 have:x=[]:=by simpa using h0
 subst this
 have e:Lgg []=some false:=rfl
 rw[e] at h;exact(oSi h).symm
theorem Lci{α β:Type}{m:Option α}{g:α→Option β}{r:α}{v:Option β}(h:m=some r)(k:g r=v):bi m g=v:=by rw[h];exact k
theorem Lcj(s:Ley)(h:StepOk s)(k1:1≤s.Kind)(k2:s.Kind≤9):∃ e,
  (bi (Lhf s.Kind) fun y17=>bi (rangeM (σ:=Unit) (ρ:=Int) (fun i19 x21 s20=>bi (Lhk 400 s x21) fun y30=>bif (y30:Int) != 0 then(bi (some y30) fun v=>some (.out v)) else(some (.go ()))) 0 y17 ()) fun q=>goI q fun a24=>bi (loopM (σ:=Int) (ρ:=Unit ⊕ Int) (fun s37=>bif decide ((s37:Int)<9) then(bi (Lhm y17 s37) fun y47=>bi (bif !y47 then(bi (Lhn s s37) fun y52=>some (!y52)) else(some false)) fun q49=>bif q49 then(bi (some 3) fun v=>some (.out (.inr v))) else(some (.go (wi (s37+1))))) else(some (.out (.inl ())))) 400 0) fun q=>orI q fun a41=>some 0)=some e∧
  (bi (Lgn s.Kind) fun y17=>gd (asc y17) (bi (rangeM (σ:=Unit) (ρ:=Int) (fun sn23 x22 s21=>bi (Lgq s (x22.toNat:Int)) fun y63=>bif (y63:Int) != 0 then(bi (some y63) fun v=>some (.out v)) else(some (.go ()))) 0 y17 ()) fun q=>goI q fun s21=>bi (Lgn s.Kind) fun y30=>bi (Krc y30) fun y32=>bi (rangePM (σ:=Unit) (ρ:=Int) (fun x41 s40=>bi (bif !x41.2 then(bi (Kqz y32 x41.1) fun y54=>some (decide ((y54:Int)<0))) else(some false)) fun q51=>bif q51 then(bi (some 3) fun v=>some (.out v)) else(some (.go ()))) (mSet (mSet (mSet (mSet (mSet (mSet (mSet (mSet (mSet ([]:List (Int×Bool)) 98 ((s.By:Str)==[])) 110 ((s.Node:Str)==[])) 106 ((s.Join:Str)==[])) 112 ((s.Public:Str)==[])) 109 ((s.Name:Str)==[])) 116 (((s.Tags.length:Int):Int)==0)) 117 ((s.Until:Int)==0)) 115 ((s.Uses:Int)==0)) 114 (!s.Ready)) ()) fun q=>goI q fun s40=>some 0))=some e:=by
 obtain⟨b0,hb0,hb0'⟩:=Lcl _ h.by_
 obtain⟨b1,hb1,hb1'⟩:=Lcl _ (Lco _ h.nd)
 obtain⟨b2,hb2,hb2'⟩:=Lcl _ (Lcp _ h.jn)
 obtain⟨b4,hb4,hb4'⟩:=Lcl _ h.nm
 obtain⟨b3,hb3,hb3'⟩:=Lcm _ h.pb
 obtain⟨e5,he5,he5',hl5⟩:=Lcn _ h.tg
 have R98:=(rf98 s).trans (Lbt hb0')
 have R110:=(Lqz s).trans (Lbt hb1')
 have R106:=(Lra s).trans (Lbt hb2')
 have R109:=(Lrb s).trans (Lbt hb4')
 have R66:=rf66 s;rw[Lbt hb0'] at R66
 have R74:=rf74 s;rw[Lbt hb2'] at R74
 have R112:=Lrc s hb3'
 have R116:=Lrd s he5' hl5
 have R117:=Lre s;have R115:=Lrf s;have R114:=Lrg s
 have P0:=pf0 s hb0;have P1:=pf1 s hb1;have P2:=pf2 s hb2;have P3:=pf3 s hb3;have P4:=pf4 s hb4;have P5:=pf5 s he5 hl5
 have P6:=pf6 s;have P7:=pf7 s;have P8:=pf8 s
 have Z0:=fun h0=>Lch hb0' h0
 have Z2:=fun h0=>Lch hb2' h0
 have K:s.Kind=1∨s.Kind=2∨s.Kind=3∨s.Kind=4∨s.Kind=5∨s.Kind=6∨s.Kind=7∨s.Kind=8∨s.Kind=9:=by omega
 have U:∀ {k:Int} {us:Str},s.Kind=k→Lgn k=some us→Lgn s.Kind=some us:=fun e h=>by rw[e];exact h
 have F:∀ {k:Int} {us:List Int},s.Kind=k→Lhf k=some us→Lhf s.Kind=some us:=fun e h=>by rw[e];exact h
 rcases K with K | K | K | K | K | K | K | K | K<;>rw[K] at P0 P2
 ·exact Lri (fl:=[0,2,5,6,7,8]) (lo:=[98,106,116,117,115,114]) (vals:=[bif b0 then 0 else 5,bif b2 then 0 else 5,e5,_,_,0]) (by decide)
   (Lci (F K rfl)<|Lce s _ _ (by simp only[List.map_cons,List.map_nil,P0,P2,P5,P6,P7,P8];cases b0<;>cases b2<;>rfl))
   (Lci (U K rfl)<|Lcf s _ _ _ rfl rfl (U K rfl) (by
    show[Lgq s 98,Lgq s 106,Lgq s 116,Lgq s 117,Lgq s 115,Lgq s 114]=_
    rw[R98,R106,R116,R117,R115,R114];rfl))
 ·exact Lri (fl:=[0,2]) (lo:=[98,106]) (vals:=[bif b0 then 0 else 5,bif b2 then 0 else 5]) (by decide)
   (Lci (F K rfl)<|Lce s _ _ (by simp only[List.map_cons,List.map_nil,P0,P2];cases b0<;>cases b2<;>rfl))
   (Lci (U K rfl)<|Lcf s _ _ _ rfl rfl (U K rfl) (by
    show[Lgq s 98,Lgq s 106]=_
    rw[R98,R106];rfl))
 ·exact Lri (fl:=[0,1,2,3,4]) (lo:=[98,110,106,112,109]) (vals:=[bif b0||(s.By==[]) then 0 else 5,bif b1 then 0 else 5,bif b2||(s.Join==[]) then 0 else 5,bif b3 then 0 else 5,bif b4 then 0 else 5]) (by decide)
   (Lci (F K rfl)<|Lce s _ _ (by simp only[List.map_cons,List.map_nil,P0,P1,P2,P3,P4];rfl))
   (Lci (U K rfl)<|Lcf s _ _ _ rfl rfl (U K rfl) (by
    show[Lgq s 66,Lgq s 110,Lgq s 74,Lgq s 112,Lgq s 109]=_
    rw[R66,R110,R74,R112,R109]
    cases (s.By==[])<;>cases (s.Join==[])<;>cases b0<;>cases b2<;>rfl))
 ·exact Lri (fl:=[0,1]) (lo:=[98,110]) (vals:=[bif b0 then 0 else 5,bif b1 then 0 else 5]) (by decide)
   (Lci (F K rfl)<|Lce s _ _ (by simp only[List.map_cons,List.map_nil,P0,P1];cases b0<;>cases b1<;>rfl))
   (Lci (U K rfl)<|Lcf s _ _ _ rfl rfl (U K rfl) (by
    show[Lgq s 98,Lgq s 110]=_
    rw[R98,R110];rfl))
 ·exact Lri (fl:=[0,1,3]) (lo:=[98,110,112]) (vals:=[bif b0 then 0 else 5,bif b1 then 0 else 5,bif b3 then 0 else 5]) (by decide)
   (Lci (F K rfl)<|Lce s _ _ (by simp only[List.map_cons,List.map_nil,P0,P1,P3];cases b0<;>cases b1<;>rfl))
   (Lci (U K rfl)<|Lcf s _ _ _ rfl rfl (U K rfl) (by
    show[Lgq s 98,Lgq s 110,Lgq s 112]=_
    rw[R98,R110,R112];rfl))
 ·exact Lri (fl:=[0,1,4]) (lo:=[98,110,109]) (vals:=[bif b0 then 0 else 5,bif b1 then 0 else 5,bif b4 then 0 else 5]) (by decide)
   (Lci (F K rfl)<|Lce s _ _ (by simp only[List.map_cons,List.map_nil,P0,P1,P4];cases b0<;>cases b1<;>rfl))
   (Lci (U K rfl)<|Lcf s _ _ _ rfl rfl (U K rfl) (by
    show[Lgq s 98,Lgq s 110,Lgq s 109]=_
    rw[R98,R110,R109];rfl))
 ·exact Lri (fl:=[0,1,5]) (lo:=[98,110,116]) (vals:=[bif b0 then 0 else 5,bif b1 then 0 else 5,e5]) (by decide)
   (Lci (F K rfl)<|Lce s _ _ (by simp only[List.map_cons,List.map_nil,P0,P1,P5];cases b0<;>cases b1<;>rfl))
   (Lci (U K rfl)<|Lcf s _ _ _ rfl rfl (U K rfl) (by
    show[Lgq s 98,Lgq s 110,Lgq s 116]=_
    rw[R98,R110,R116];rfl))
 all_goals
  exact Lri (fl:=[0,1]) (lo:=[98,110]) (vals:=[bif b0 then 0 else 5,bif b1 then 0 else 5]) (by decide)
   (Lci (F K rfl)<|Lce s _ _ (by simp only[List.map_cons,List.map_nil,P0,P1];cases b0<;>cases b1<;>rfl))
   (Lci (U K rfl)<|Lcf s _ _ _ rfl rfl (U K rfl) (by
    show[Lgq s 98,Lgq s 110]=_
    rw[R98,R110];rfl))
theorem Lck{s:Ley}(h:StepOk s):∃ e,Lho 400 s=some e∧Lgr s=some e:=by
 obtain⟨b,hb,hb'⟩:=Lcg s.At
 obtain⟨c,hc,hc'⟩:=Lcl _ h.sv
 obtain⟨d,hd,hd'⟩:=Lbq s.No 1 1000000
 obtain⟨f,hf,hf'⟩:=Lbq s.Kind 1 9
 unfold Lho Lgr
 rw[hb,hb',bi_some,bi_some]
 cases b with
 | false=>exact⟨1,rfl,rfl⟩
 | true=>
  simp only[Bool.not_true,cond_false]
  rw[hc,hc',bi_some,bi_some]
  cases c with
  | false=>exact⟨5,rfl,rfl⟩
  | true=>
   simp only[Bool.not_true,cond_false]
   rw[hd,hd',bi_some,bi_some]
   cases d with
   | true=>exact⟨1,rfl,rfl⟩
   | false=>
    simp only[Bool.not_false,Bool.not_true,cond_false]
    rw[hf,hf',bi_some,bi_some]
    cases f with
    | true=>exact⟨4,rfl,rfl⟩
    | false=>
     simp only[Bool.not_false,Bool.not_true,cond_false]
     have:1≤s.Kind∧s.Kind≤9:=by
      unfold Lgk at hf'
      simpa using hf'
     exact Lcj s h this.1 this.2
end Go.Gk
namespace Go.Gk
theorem Las(l:List Str)(v:Str):Lgj l v=some (l.any fun x=>v==x):=by
 unfold Lgj Lgi
 rw[Lcu (fun x=>v==x) l (fun j x _=>by cases (v==x)<;>rfl),bi_some,Lcs]
theorem Lat{x:Str}(h:x∈keyT):Lha 400 x=Lgg x:=by
 obtain⟨b,h1,h2⟩:=Lcl x h
 rw[h1,h2]
theorem Lau{l:List Str}(h:∀ x∈l,x∈keyT):Lhb 400 l=Lgh l:=by
 unfold Lhb Lgh
 rw[Lbo l 0 () fun j x s hx=>by rw[Lat (h x hx)]]
theorem Lav{α:Type}{l:List α}{i:Nat}{x:α}{g:α→Option Bool}(hx:l[i]?=some x)(hl:l.length≤100000)(hg:∀ y,Ok (g y) fun _=>True) :
  Ok (bif decide (((i:Int):Int)>0) then(bi (getZ l (wi ((i:Int) - 1))) g) else(some false)) fun _=>True:=by
 refine Ldo (fun h=>?_) fun _=>Ldk trivial
 have hi:(i:Int)>0:=of_decide_eq_true h
 have hil:i<l.length:=(gEs.1 hx).1
 refine Ldu (j:=i - 1) (x:=l[i - 1]) ?_ (gGe (by omega)) (hg _)
 rw[Lbf (by omega) (by omega)];omega
theorem Law{l:List Str}(h:∀ x∈l,x∈keyT)(hl:l.length≤100000):Ok (Lgh l) fun _=>True:=by
 unfold Lgh
 refine Ldl (Lds (fun _ _=>True) (fun _=>True) trivial fun i x s hx _=>?_) fun r _=>by cases r<;>exact Ldk trivial
 obtain⟨b,_,hb⟩:=Lcl x (h x (mOg hx))
 refine Ldm hb ?_
 refine Ldo (fun _=>Ldk trivial) fun _=>?_
 refine Ldl (Lav hx hl fun y=>Ldk trivial) fun q _=>?_
 exact Ldo (fun _=>Ldk trivial) fun _=>Ldk trivial
structure DirOk(d:Lex):Prop where
 us:∀ x∈d.Users,x∈keyT
 ul:d.Users.length≤10
 ow:∀ o∈d.Owners,o.Tag∈keyT∧o.Users.length≤10
 ol:d.Owners.length≤10
theorem Lax{d:Lex}(h:DirOk d):Lhd 400 d=Lgl d:=by
 unfold Lhd Lgl
 rw[Lau h.us,Lbo d.Owners 0 () fun j x s hx=>by rw[Lat (h.ow x hx).1]]
 obtain⟨c,h1,h2⟩:=Lbq d.Life 1 345686400
 rw[h1,h2]
 cases c<;>rfl
theorem Laz{d:Lex}(h:DirOk d):Ok (Lgl d) fun _=>True:=by
 unfold Lgl
 have h1:=h.ul;have h2:=h.ol
 refine Ldo (fun _=>Ldk trivial) fun _=>?_
 refine Ldl (Law h.us (by omega)) fun y _=>?_
 refine Ldo (fun _=>Ldk trivial) fun _=>?_
 refine Ldo (fun _=>Ldk trivial) fun _=>?_
 refine Ldl (P:=fun _=>True) (Ldn (Lds (fun _ _=>True) (fun _=>True) trivial fun i x s hx _=>?_) fun _ _=>trivial) fun r _=>?_
 ·obtain⟨hx1,hx2⟩:=h.ow x (mOg hx)
  obtain⟨b,_,hb⟩:=Lcl _ hx1
  refine Ldm hb ?_
  refine Ldo (fun _=>Ldk trivial) fun _=>?_
  refine Ldl (Lav hx (by omega) fun y=>Ldk trivial) fun q _=>?_
  refine Ldo (fun _=>Ldk trivial) fun _=>?_
  refine Ldl (P:=fun _=>True) (Ldn (Lds (fun _ _=>True) (fun q=>match q with | .go _=>True | .out _=>True) trivial fun i y s hy _=>?_) fun _ _=>trivial) fun r _=>?_
  ·rw[Las,bi_some]
   refine Ldo (fun _=>Ldk trivial) fun _=>?_
   refine Ldl (Lav hy (by omega) fun y=>Ldk trivial) fun q _=>?_
   exact Ldo (fun _=>Ldk trivial) fun _=>Ldk trivial
  cases r with
  | go s=>exact Ldk trivial
  | out q=>cases q<;>exact Ldk trivial
 cases r with
 | out q=>exact Ldk trivial
 | go s=>
  simp only[goI]
  exact Ldl (P:=fun _=>True) (Ldk trivial) fun y _=>Ldo (fun _=>Ldk trivial) fun _=>Ldk trivial
theorem Lba{α ρ:Type}{f:Nat→α→Unit→Option (LS Unit ρ)}(p:α→Bool)(g:α→ρ):∀ (l:List α) (i:Nat),(∀ j x,f j x ()=some (bif p x then .out (g x) else .go ()))→rangeM f i l ()=some (match l.find? p with | some x=>.out (g x) | none=>.go ())
 | [],i,_=>rfl
 | x :: l,i,h=>by
  simp only[rangeM,h,List.find?_cons]
  cases p x with
  | true=>rfl
  | false=>exact Lba p g l (i+1) h
theorem Lbb{α:Type}{p:α→Bool}:∀ {l:List α} {i:Nat} {a:α},l.findIdx? p=some i→l[i]?=some a→l.find? p=some a
 | [],i,a,h,_=>by cases h
 | x :: l,i,a,h,ha=>by
  rw[List.findIdx?_cons] at h
  rw[List.find?_cons]
  cases hp:p x with
  | true=>
   rw[hp,if_pos rfl] at h
   cases h
   simpa using ha
  | false=>
   rw[hp] at h
   simp only[Bool.false_eq_true,if_false] at h
   cases hi:l.findIdx? p with
   | none=>rw[hi] at h;cases h
   | some j=>
    rw[hi] at h
    simp only[Option.map_some,Option.some.injEq] at h
    subst h
    exact Lbb hi (by simpa using ha)
theorem Lbc{α:Type}{p:α→Bool}{l:List α}(h:l.any p=false):l.find? p=none:=by
 rw[List.find?_eq_none]
 simpa using h
theorem Lbd(d:Lex)(u t:Str):Lid d u t=some (match d.Owners.find? (fun o=>o.Tag==t) with | some o=>(o.Users.any fun x=>u==x,true) | none=>(false,false)):=by
 unfold Lid Lic
 rw[Lcu (fun o:Lew=>o.Tag==t) d.Owners (fun j x _=>by unfold Lia;cases (x.Tag==t)<;>rfl),bi_some,Lcs]
 cases h:d.Owners.any (fun o=>o.Tag==t) with
 | false=>rw[Lbc h];rfl
 | true=>
  obtain⟨i,a,h1,h2,h3,h4,h5⟩:=Lcr h
  rw[h1,Lbb h2 h3,cond_true,Lad h3,bi_some,Las];rfl
theorem Lbe(d:Lex)(t:Str):Ljp d t=some (match d.Owners.find? (fun o=>o.Tag==t) with | some o=>(o.Users,true) | none=>([],false)):=by
 unfold Ljp
 rw[Lba (fun o:Lew=>o.Tag==t) (fun o=>(o.Users,true)) d.Owners 0 (fun j x=>by cases h:(x.Tag==t)<;>rfl)]
 cases d.Owners.find? (fun o=>o.Tag==t)<;>rfl
end Go.Gk
namespace Go.Gk
section
variable{K V:Type}[BEq K][LawfulBEq K][KLt K]
theorem Ldb(e:K×V)(m:List (K×V))(k:K):mGet (e :: m) k=if k==e.1 then some e.2 else mGet m k:=by
 unfold mGet
 simp only[List.find?_cons]
 cases (k==e.1)<;>rfl
theorem Ldc(k:K)(v:V)(k':K):∀ m:List (K×V),(∀ e∈m,(k==e.1)=false)→mGet (mIns k v m) k'=if k'==k then some v else mGet m k'
 | [],_=>by simp only[mIns,Ldb]
 | e :: m,h=>by
  have h0:=h e mCs
  simp only[mIns]
  cases KLt.lt k e.1 with
  | true=>simp only[cond_true,Ldb]
  | false=>
   simp only[cond_false]
   rw[Ldb,Ldc k v k' m fun e he=>h e (mCo _ he),Ldb]
   by_cases h2:k'=e.1
   ·subst h2
    have:(e.1==k)=false:=by
     rw[beq_eq_false_iff_ne] at h0 ⊢;exact Ne.symm h0
    simp[this]
   have:(k'==e.1)=false:=by simpa using h2
   simp[this]
theorem Ldd(m:List (K×V))(k:K)(v:V)(k':K):mGet (mSet m k v) k'=if k'==k then some v else mGet m k':=by
 unfold mSet
 cases hf:m.findIdx? (fun e=>k==e.1) with
 | none=>exact Ldc k v k' m (by simpa using List.findIdx?_eq_none_iff.1 hf)
 | some i=>
  simp only
  induction m generalizing i with
  | nil=>simp at hf
  | cons e m ih=>
   rw[List.findIdx?_cons] at hf
   by_cases hk:k=e.1
   ·subst hk
    simp at hf
    subst hf
    simp only[List.set_cons_zero,Ldb]
    by_cases h2:k'=e.1
    ·subst h2;simp
    have:(k'==e.1)=false:=by simpa using h2
    simp[this]
   have hk2:(k==e.1)=false:=by simpa using hk
   rw[hk2] at hf
   simp only[Bool.false_eq_true,if_false,Option.map_eq_some_iff] at hf
   obtain⟨j,hj,rfl⟩:=hf
   simp only[List.set_cons_succ,Ldb,ih j hj]
   by_cases h2:k'=e.1
   ·subst h2
    have:(e.1==k)=false:=by simpa using Ne.symm hk
    simp[this]
   have:(k'==e.1)=false:=by simpa using h2
   simp[this]
end
def sameO(x y:Ley):Bool:=((x.Server:Str)==y.Server)&&((x.No:Int)==y.No)
def Once(l:List Ley):Prop:=∀ (i:Nat) x,l[i]?=some x→(l.take i).any (fun y=>sameO y x)=false
def og(x:Ley):Lfb:=⟨x.Server,x.No⟩
theorem Lde(x y:Ley):(og y==og x)=sameO x y:=by
 rw[Bool.eq_iff_iff]
 unfold og sameO
 simp only[beq_iff_eq,Lfb.mk.injEq,Bool.and_eq_true]
 exact⟨fun h=>⟨h.1.symm,h.2.symm⟩,fun h=>⟨h.1.symm,h.2.symm⟩⟩
theorem Ldf(a b:Ley):∃ c,Lfz a b=some c:=by
 unfold Lfz Kqy
 rw[Lbr,Lbr]
 simp only[bi_some]
 obtain⟨c,h,_⟩:=Lbs (cmpI a.At b.At) [Lib.compareBytes a.Server b.Server,cmpI a.No b.No]
 rw[h]
 exact⟨_,rfl⟩
theorem Ldg(l:List Ley)(x:Ley):Lgu l x=some (l.any fun y=>sameO y x):=by
 unfold Lgu Lgt
 rw[Lcu (fun y=>sameO y x) l (fun j y _=>by unfold Lgs sameO;cases ((y.Server:Str)==x.Server)<;>cases ((y.No:Int)==x.No)<;>rfl),bi_some,Lcs]
theorem Ldh{α:Type}{l:List α}{i:Nat}{x:α}(h:l[i]?=some x):l.take (i+1)=l.take i++[x]:=by
 rw[List.take_add_one,h];rfl
theorem Ldi{l:List Ley}{i:Nat}{x:Ley}(hx:l[i]?=some x)(hl:l.length≤100000):∃ b,
  (bif decide (((i:Int):Int)>0) then(bi (getZ l (wi ((i:Int) - 1))) fun x23=>bi (Lhp x23 x) fun y25=>some (decide ((y25:Int)≥0))) else(some false))=some b∧
  (bif decide (((i:Int):Int)>0) then(bi (getZ l (wi ((i:Int) - 1))) fun x23=>bi (Lfz x23 x) fun y25=>some (decide ((y25:Int)≥0))) else(some false))=some b:=by
 have e:Lhp=Lfz:=rfl
 rw[e]
 obtain⟨b,h,_⟩:=Lav (g:=fun x23=>bi (Lfz x23 x) fun y25=>some (decide ((y25:Int)≥0))) hx hl fun y=>by
  obtain⟨c,hc⟩:=Ldf y x
  rw[hc]
  exact Ldk trivial
 exact⟨b,h,h⟩
theorem Ldj{l:List Ley}(h:∀ x∈l,StepOk x)(hl:l.length≤1000):∃ e,Lhr 400 l=some e∧Lgv l=some e∧(e=0→Once l):=by
 have key:Two (Lhr 400 l) (Lgv l) fun a b=>a=b∧(b=0→Once l):=by
  unfold Lhr Lgv
  rw[dF (show ¬ ((l.length:Int)>2000) by omega)]
  simp only[cond_false]
  refine Ldy (Lea (fun i (s:List (Lfb×Bool)) (_:Unit)=>(∀ y,(mGet s (og y)).getD false=(l.take i).any fun z=>sameO z y)∧∀ (j:Nat) x,j<i→l[j]?=some x→(l.take j).any (fun y=>sameO y x)=false) (fun a b=>a=b∧b≠0) ⟨fun y=>by simp[mGet],fun j x hj=>absurd hj (by omega)⟩ fun i x s t hx hI=>?_) fun r q hr=>?_
  ·obtain⟨e,h1,h2⟩:=Lck (h x (mOg hx))
   rw[h1,h2,bi_some,bi_some]
   refine Ldz rfl (fun he=>Ldw ⟨rfl,by simpa using he⟩) fun _=>?_
   obtain⟨b,h3,h4⟩:=Ldi hx (by omega)
   have hi:i<l.length:=(gEs.1 hx).1
   rw[h3,h4,bi_some,bi_some]
   refine Ldz rfl (fun he=>Ldw ⟨rfl,by decide⟩) fun _=>?_
   rw[show subZ l 0 (i:Int)=some (l.take i) from(Lac (i:=0) (Nat.zero_le _) (by omega)).trans rfl]
   refine Ldx rfl ?_
   refine Ldx (Ldg _ _) ?_
   show Two (bif (mGet s (og x)).getD false then _ else some (LS.go (mSet s (og x) true))) _ _
   refine Ldz (hI.1 x) (fun he=>Ldw ⟨rfl,by decide⟩) fun he=>Ldw ⟨fun y=>?_,fun j z hj hz=>?_⟩
   ·rw[Ldd,Lde,Ldh hx,List.any_append]
    simp only[List.any_cons,List.any_nil,Bool.or_false]
    cases hs:sameO x y with
    | true=>simp
    | false=>simpa using hI.1 y
   by_cases hji:j=i
   ·subst hji
    rw[hx] at hz;cases hz
    rw[hI.1 x] at he;exact he
   exact hI.2 j z (by omega) hz
  cases r with
  | out a=>
   cases q with
   | out b=>exact Ldw ⟨hr.1,fun h0=>absurd h0 hr.2⟩
   | go t=>exact hr.elim
  | go s=>
   cases q with
   | out b=>exact hr.elim
   | go t=>exact Ldw ⟨rfl,fun _ i x hx=>hr.2 i x (gEs.1 hx).1 hx⟩
 obtain⟨a,b,h1,h2,rfl,h3⟩:=key
 exact⟨a,h1,h2,h3⟩
end Go.Gk
namespace Go.Gk
theorem Lef{σ ρ:Type}{f:σ→Option (LS σ ρ)}{s:σ}{r:ρ}(h:f s=some (.out r)):loopM f 400 s=some r:=by
 show loopM f (399+1) s=_
 simp only[loopM,h]
def Kin(data r:List Ley):Prop:=r.length=data.length∧∀ x∈r,x∈data
theorem Kin.set{data r:List Ley}(h:Kin data r){i:Nat}{x:Ley}(hx:x∈data):Kin data (r.set i x):=
 ⟨by rw[List.length_set];exact h.1,fun y hy=>by
  rcases List.mem_or_eq_of_mem_set hy with h1 | rfl
  ·exact h.2 y h1
  exact hx⟩
theorem Leg(data:List Ley)(k:Nat)(hk:data.length<k)(hl:data.length≤1000)(s:(List Ley)×Int)(hs:Kin data s.1∧0≤s.2∧s.2<data.length) :
  Ok (loopM (σ:=(List Ley)×Int) (ρ:=List Ley) (fun s13=>bi (bif decide ((s13.2:Int)>0) then(bi (getZ s13.1 s13.2) fun x25=>bi (getZ s13.1 (wi (s13.2 - 1))) fun x28=>bi (Lfz x25 x28) fun y31=>some (decide ((y31:Int)<0))) else(some false)) fun q22=>bif q22 then(bi (getZ s13.1 (wi (s13.2 - 1))) fun x35=>bi (getZ s13.1 s13.2) fun x38=>bi (getZ s13.1 s13.2) fun x41=>bi (getZ s13.1 (wi (s13.2 - 1))) fun x44=>bi (getZ (s13.1.set s13.2.toNat x35) (((wi (s13.2 - 1)).toNat:Nat):Int)) fun x47=>some (.go ((s13.1.set s13.2.toNat x35).set ((wi (s13.2 - 1)).toNat) x38,wi (s13.2 - 1)))) else(some (.out s13.1))) k s) (Kin data):=by
 refine Ldt (fun s:(List Ley)×Int=>Kin data s.1∧0≤s.2∧s.2<(data.length:Int)) (fun s=>s.2.toNat) (Kin data) hs (by omega) fun s13 hI=>?_
 obtain⟨h1,h2,h3⟩:=hI
 have hj:s13.2.toNat<s13.1.length:=by rw[h1.1];omega
 by_cases h0:s13.2>0
 ·have hw:wi (s13.2 - 1)=((s13.2.toNat - 1:Nat):Int):=by rw[Lbf (by omega) (by omega)];omega
  have e1:getZ s13.1 s13.2=some (s13.1[s13.2.toNat]):=Lae (j:=s13.2.toNat) (by omega) (gGe hj)
  have e2:getZ s13.1 (wi (s13.2 - 1))=some (s13.1[s13.2.toNat - 1]'(by omega)):=Lae (j:=s13.2.toNat - 1) hw (gGe (by omega))
  rw[dT h0,cond_true,e1,e2]
  obtain⟨c,hc⟩:=Ldf (s13.1[s13.2.toNat]) (s13.1[s13.2.toNat - 1]'(by omega))
  refine Ldm (r:=decide (c<0)) (by rw[bi_some,bi_some,hc];rfl) ?_
  refine Ldo (fun _=>?_) fun _=>Ldk h1
  simp only[bi_some]
  refine Ldu (j:=s13.2.toNat - 1) (x:=s13.1[s13.2.toNat - 1]'(by omega)) (by rw[hw,Int.toNat_natCast]) (by rw[gSn (by omega)];exact gGe _) (Ldk ⟨⟨?_,?_,?_⟩,?_⟩)
  ·exact(h1.set (h1.2 _ (List.getElem_mem _))).set (h1.2 _ (List.getElem_mem _))
  ·rw[hw];omega
  ·rw[hw];omega
  ·simp only[hw];omega
 ·rw[dF h0,cond_false,bi_some,cond_false]
  exact Ldk h1
theorem Leh(data:List Ley)(k:Nat)(hk:data.length<k)(hl:data.length≤1000):Ok (Lga k data 0 (data.length:Int)) (Kin data):=by
 unfold Lga
 refine Ldl (P:=Kin data) (Ldt (fun s:(List Ley)×Int=>Kin data s.1∧1≤s.2) (fun s=>((data.length:Int) - s.2).toNat) (Kin data) ⟨⟨rfl,fun x h=>h⟩,Int.le_refl 1⟩ (by
  show((data.length:Int) - wi (0+1)).toNat<k
  have:wi (0+1)=1:=rfl
  omega) fun s hI=>?_) fun r hr=>Ldk hr
 refine Ldo (fun h=>?_) fun _=>Ldk hI.1
 have hlt:=of_decide_eq_true h
 have h1:=hI.2
 refine Ldl (Leg data k hk hl (s.1,s.2) ⟨hI.1,by simp only;omega,hlt⟩) fun r hr=>Ldk ?_
 have hw:wi (s.2+1)=s.2+1:=Lbf (by omega) (by omega)
 refine⟨⟨hr,?_⟩,?_⟩
 ·simp only[hw];omega
 simp only[hw];omega
theorem Lei(x:List Ley)(h:x.length≤19):Ok (Lgc 400 x) (Kin x):=by
 unfold Lgc
 refine Ldl (P:=Kin x) ?_ fun r hr=>Ldk hr
 obtain⟨r,h1,h2⟩:=Leh x 400 (by omega) (by omega)
 unfold Lgb
 refine Ldm (r:=(x,0)) ?_ ?_
 ·refine Lef ?_
  rw[dF (show ¬ (20:Int)≤x.length by omega)]
  rfl
 simp only
 refine Ldm h1 (Ldp (dT h2.1) ?_)
 refine Ldm (r:=()) ?_ (Ldk h2)
 refine Lef ?_
 rw[dF (show ¬ (20:Int)<x.length by omega)]
 rfl
end Go.Gk
