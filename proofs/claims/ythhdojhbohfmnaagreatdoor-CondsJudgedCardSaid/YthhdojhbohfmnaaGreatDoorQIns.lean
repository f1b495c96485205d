import Derived.Test.YthhdojhbohfmnaaGreatDoorCNum
set_option linter.all false
set_option maxRecDepth 100000
namespace Go.Gk
theorem Kzf:∀ a:List UInt8,Op.bytesLess a a=false
 | []=>rfl
 | x :: a=>by simp[Op.bytesLess,Kzf a]
theorem Kzg:∀ a b c:List UInt8,Op.bytesLess a b=true→Op.bytesLess b c=true→Op.bytesLess a c=true
 | _,[],_,h,_=>by cases ‹List UInt8›<;>simp[Op.bytesLess] at h
 | _,_ :: _,[],_,h=>by simp[Op.bytesLess] at h
 | [],_ :: _,_ :: _,_,_=>rfl
 | x :: a,y :: b,z :: c,h,k=>by
  simp only[Op.bytesLess,Bool.or_eq_true,decide_eq_true_eq,Bool.and_eq_true,beq_iff_eq] at h k ⊢
  rcases h with h | ⟨rfl,h⟩
  ·rcases k with k | ⟨rfl,k⟩
   ·exact .inl (UInt8.lt_trans h k)
   exact .inl h
  rcases k with k | ⟨rfl,k⟩
  ·exact .inl k
  exact .inr ⟨rfl,Kzg a b c h k⟩
theorem Kzh:∀ a b:List UInt8,Op.bytesLess a b=false→Op.bytesLess b a=false→a=b
 | [],[],_,_=>rfl
 | [],_ :: _,h,_=>by simp[Op.bytesLess] at h
 | _ :: _,[],_,h=>by simp[Op.bytesLess] at h
 | x :: a,y :: b,h,k=>by
  simp only[Op.bytesLess,Bool.or_eq_false_iff,decide_eq_false_iff_not,Bool.and_eq_false_iff,beq_eq_false_iff_ne,ne_eq] at h k
  have e:x=y:=by
   apply UInt8.toNat_inj.1
   have h1:=h.1;have k1:=k.1
   rw[UInt8.lt_iff_toNat_lt] at h1 k1
   omega
  subst e
  rw[Kzh a b (by simpa using h.2) (by simpa using k.2)]
section
variable{α:Type}{lt:α→α→Bool}
structure Ord(lt:α→α→Bool):Prop where
 sy:∀ a b,lt a b=true→lt b a=false
 tr:∀ a b c,lt a b=false→lt b c=false→lt a c=false
theorem Kzi(A:List α)(p q:α)(X:List α):((A++p :: q :: X).set (A.length+1) p).set A.length q=A++q :: p :: X:=by
 rw[List.set_append_right _ _ (by omega),List.set_append_right _ _ (by omega)]
 simp
theorem Kzj(O:Ord lt){cmp:α→α→Option Int}(hcmp:∀ x y,∃ c,cmp x y=some c∧decide (c<0)=lt x y){f:(List α)×Int→Option (LS ((List α)×Int) (List α))}
  (hf:∀ s13,f s13=bi (bif decide ((s13.2:Int)>0) then(bi (getZ s13.1 s13.2) fun x25=>bi (getZ s13.1 (wi (s13.2 - 1))) fun x28=>bi (cmp x25 x28) fun y31=>some (decide ((y31:Int)<0))) else(some false)) fun q22=>bif q22 then(bi (getZ s13.1 (wi (s13.2 - 1))) fun x35=>bi (getZ s13.1 s13.2) fun x38=>bi (getZ s13.1 s13.2) fun x41=>bi (getZ s13.1 (wi (s13.2 - 1))) fun x44=>bi (getZ (s13.1.set s13.2.toNat x35) (((wi (s13.2 - 1)).toNat:Nat):Int)) fun x47=>some (.go ((s13.1.set s13.2.toNat x35).set ((wi (s13.2 - 1)).toNat) x38,wi (s13.2 - 1)))) else(some (.out s13.1))) :
  ∀ (k:Nat) (A B C:List α) (q:α),(A++B).Pairwise (fun x y=>lt y x=false)→(∀ b∈B,lt q b=true)→A.length<k→A.length≤100→
   ∃ D,loopM f k (A++q :: (B++C),(A.length:Int))=some (D++C)∧D.Pairwise (fun x y=>lt y x=false)∧D.length=A.length+1+B.length∧(D++C).Perm (A++q :: (B++C))
 | 0,A,B,C,q,_,_,h,_=>absurd h (Nat.not_lt_zero _)
 | k+1,A,B,C,q,hp,hB,hk,hl=>by
  have hq:(A++q :: (B++C))[A.length]?=some q:=by simp
  unfold loopM
  rw[hf]
  by_cases hA:A=[]
  ·subst hA
   refine⟨q :: B,by simp,?_,by simp;omega,by simp⟩
   rw[List.pairwise_cons]
   exact⟨fun b hb=>O.sy _ _ (hB b hb),by simpa using hp⟩
  ·obtain⟨A',p,rfl⟩:∃ a x,A=a++[x]:=⟨A.dropLast,A.getLast hA,(List.dropLast_concat_getLast hA).symm⟩
   have hlen:(A'++[p]).length=A'.length+1:=by simp
   have hpj:((A'++[p])++q :: (B++C))[A'.length]?=some p:=by simp
   have hw:wi (((A'++[p]).length:Int) - 1)=(A'.length:Int):=by rw[hlen,Law (by omega) (by omega)];omega
   have hst:(A'++[p])++q :: (B++C)=A'++p :: q :: (B++C):=by simp
   simp only
   rw[dT (show((A'++[p]).length:Int)>0 by rw[hlen];omega)]
   obtain⟨c,hc1,hc⟩:=hcmp q p
   simp only[cond_true,hw,getZ_cast,hq,hpj,bi_some,hc1]
   cases hlt:lt q p with
   | true=>
    rw[hc,hlt]
    simp only[cond_true,Int.toNat_natCast,bi_some]
    have e1:(((A'++[p])++q :: (B++C)).set (A'++[p]).length p)[A'.length]?=some p:=by rw[gSn (by rw[hlen];omega)];exact hpj
    rw[e1]
    simp only[bi_some]
    rw[hlen,hst,Kzi]
    obtain⟨D,d1,d2,d3,d4⟩:=Kzj O hcmp hf k A' (p :: B) C q (by simpa using hp) (fun b hb=>by
     rcases List.mem_cons.1 hb with rfl | hb
     ·exact hlt
     ·exact hB b hb) (by omega) (by omega)
    refine⟨D,d1,d2,by rw[d3];simp;omega,d4.trans ?_⟩
    exact(List.Perm.swap p q (B++C)).append_left A'
   | false=>
    rw[hc,hlt]
    refine⟨(A'++[p])++q :: B,by simp,?_,by simp;omega,by simp⟩
    rw[List.pairwise_append] at hp ⊢
    refine⟨hp.1,?_,fun x hx y hy=>?_⟩
    ·rw[List.pairwise_cons]
     exact⟨fun b hb=>O.sy _ _ (hB b hb),hp.2.1⟩
    ·rcases List.mem_cons.1 hy with rfl | hy
     ·rcases List.mem_append.1 hx with hx | hx
      ·exact O.tr _ _ _ hlt ((List.pairwise_append.1 hp.1).2.2 x hx p (by simp))
      ·simp only[List.mem_singleton] at hx
       subst hx;exact hlt
     ·exact hp.2.2 x hx y hy
theorem Kzk(O:Ord lt){cmp:α→α→Option Int}(hcmp:∀ x y,∃ c,cmp x y=some c∧decide (c<0)=lt x y){f:(List α)×Int→Option (LS ((List α)×Int) (List α))}
  (hf:∀ s13,f s13=bi (bif decide ((s13.2:Int)>0) then(bi (getZ s13.1 s13.2) fun x25=>bi (getZ s13.1 (wi (s13.2 - 1))) fun x28=>bi (cmp x25 x28) fun y31=>some (decide ((y31:Int)<0))) else(some false)) fun q22=>bif q22 then(bi (getZ s13.1 (wi (s13.2 - 1))) fun x35=>bi (getZ s13.1 s13.2) fun x38=>bi (getZ s13.1 s13.2) fun x41=>bi (getZ s13.1 (wi (s13.2 - 1))) fun x44=>bi (getZ (s13.1.set s13.2.toNat x35) (((wi (s13.2 - 1)).toNat:Nat):Int)) fun x47=>some (.go ((s13.1.set s13.2.toNat x35).set ((wi (s13.2 - 1)).toNat) x38,wi (s13.2 - 1)))) else(some (.out s13.1)))
  (n:Nat) (hn:n≤100) (k1:Nat) (hk1:200≤k1) {f2:(List α)×Int→Option (LS ((List α)×Int) (List α))}
  (hf2:∀ s2,f2 s2=bif decide ((s2.2:Int)<(n:Int)) then(bi (loopM f k1 (s2.1,s2.2)) fun q15=>some (.go (q15,wi (s2.2+1)))) else(some (.out s2.1))) :
  ∀ (k:Nat) (S C:List α),S.Pairwise (fun x y=>lt y x=false)→(S++C).length=n→C.length<k→
   ∃ m,loopM f2 k (S++C,(S.length:Int))=some m∧m.Pairwise (fun x y=>lt y x=false)∧m.length=n∧m.Perm (S++C)
 | 0,S,C,_,_,h=>absurd h (Nat.not_lt_zero _)
 | k+1,S,C,hS,hl,hk=>by
  unfold loopM
  rw[hf2]
  cases C with
  | nil=>
   simp only[List.append_nil] at hl ⊢
   rw[dF (show ¬ (S.length:Int)<(n:Int) by omega)]
   exact⟨S,rfl,hS,hl,.refl _⟩
  | cons q C=>
   have hl':S.length+(C.length+1)=n:=by simpa using hl
   simp only
   rw[dT (show(S.length:Int)<(n:Int) by omega)]
   obtain⟨D,d1,d2,d3,d4⟩:=Kzj O hcmp hf k1 S [] C q (by simpa using hS) (fun b hb=>by cases hb) (by omega) (by omega)
   simp only[List.nil_append] at d1 d4
   simp only[List.length_nil,Nat.add_zero] at d3
   simp only[cond_true,d1,bi_some]
   have hw:wi ((S.length:Int)+1)=(D.length:Int):=by rw[Law (by omega) (by omega),d3];omega
   rw[hw]
   obtain⟨m,m1,m2,m3,m4⟩:=Kzk O hcmp hf n hn k1 hk1 hf2 k D C d2 (by simp;omega) (by simp at hk;omega)
   exact⟨m,m1,m2,m3,m4.trans d4⟩
end
theorem Kzl:∀ a b:Str,decide (Lib.compareBytes a b<0)=Op.bytesLess a b
 | [],[]=>rfl
 | [],_ :: _=>rfl
 | _ :: _,[]=>rfl
 | a :: x,b :: y=>by
  unfold Lib.compareBytes Op.bytesLess
  by_cases h1:a<b
  ·simp[h1]
  by_cases h2:b<a
  ·have hne:(a==b)=false:=by
    rw[beq_eq_false_iff_ne]
    intro e
    subst e
    exact h1 h2
   simp[h1,h2,hne]
  have he:a=b:=UInt8.le_antisymm (UInt8.not_lt.1 h2) (UInt8.not_lt.1 h1)
  subst he
  simp[h1,Kzl x y]
theorem Kzm(a b:Str)(h:Op.bytesLess a b=true):Op.bytesLess b a=false:=by
 cases h2:Op.bytesLess b a with
 | false=>rfl
 | true=>have:=Kzg _ _ _ h h2;rw[Kzf] at this;cases this
theorem Kzn(a b c:Str)(h1:Op.bytesLess a b=false)(h2:Op.bytesLess b c=false):Op.bytesLess a c=false:=by
 cases h3:Op.bytesLess a c with
 | false=>rfl
 | true=>
  cases h4:Op.bytesLess b a with
  | true=>have:=Kzg _ _ _ h4 h3;rw[h2] at this;cases this
  | false=>
   have:=Kzh _ _ h1 h4
   subst this
   rw[h2] at h3;cases h3
theorem Kzo:∀ a b:Str,Lib.compareBytes a b=0 ↔ a=b
 | [],[]=>by simp[Lib.compareBytes]
 | [],_ :: _=>by simp[Lib.compareBytes]
 | _ :: _,[]=>by simp[Lib.compareBytes]
 | a :: x,b :: y=>by
  unfold Lib.compareBytes
  by_cases h1:a<b
  ·simp only[h1,if_true]
   constructor
   ·intro h;cases h
   intro h;cases h;exact absurd h1 (UInt8.lt_irrefl _)
  by_cases h2:b<a
  ·simp only[h1,h2,if_true,if_false]
   constructor
   ·intro h;cases h
   intro h;cases h;exact absurd h2 (UInt8.lt_irrefl _)
  have he:a=b:=UInt8.le_antisymm (UInt8.not_lt.1 h2) (UInt8.not_lt.1 h1)
  subst he
  simp only[h1,if_false,Kzo x y]
  simp
def cI(x y:Int):Int:=if x<y then -1 else if x>y then 1 else 0
def cC(a b:Lcy):Int:=if cI a.At b.At≠0 then cI a.At b.At else if Lib.compareBytes a.Node b.Node≠0 then Lib.compareBytes a.Node b.Node else Lib.compareBytes a.Name b.Name
theorem Lmv(x y:Int):Len x y=some (cI x y):=by
 unfold Len Lem cI
 simp only[bne_self_eq_false,bi_some,cond_false]
 by_cases h1:x<y
 ·rw[dT h1,if_pos h1];rfl
 rw[dF h1,if_neg h1]
 by_cases h2:x>y
 ·rw[dT h2,if_pos h2];rfl
 rw[dF h2,if_neg h2];rfl
theorem or3(x y z:Int):Leo [x,y,z]=some (if x≠0 then x else if y≠0 then y else z):=by
 unfold Leo
 by_cases hx:x=0
 ·subst hx
  by_cases hy:y=0
  ·subst hy
   by_cases hz:z=0
   ·subst hz;rfl
   have bz:(z != 0)=true:=by simpa using hz
   simp[rangeM,goI,bz]
  have by':(y != 0)=true:=by simpa using hy
  simp[rangeM,goI,by',hy]
 have bx:(x != 0)=true:=by simpa using hx
 simp[rangeM,goI,bx,hx]
theorem cmpC(a b:Lcy):Lep a b=some (cC a b):=by
 unfold Lep Kyf
 rw[Lmv]
 simp only[bi_some]
 rw[or3]
 rfl
theorem Kzp:Lgc=Lep:=rfl
theorem Kzq(a b:Lcy):cC a b=0 ↔ a.At=b.At∧a.Node=b.Node∧a.Name=b.Name:=by
 have hI:cI a.At b.At=0 ↔ a.At=b.At:=by unfold cI;split<;>(try split)<;>omega
 unfold cC
 by_cases h1:a.At=b.At
 ·rw[if_neg (by simpa using hI.2 h1)]
  by_cases h2:a.Node=b.Node
  ·rw[if_neg (by simpa using (Kzo _ _).2 h2),Kzo]
   simp[h1,h2]
  have:Lib.compareBytes a.Node b.Node≠0:=fun h=>h2 ((Kzo _ _).1 h)
  rw[if_pos this]
  simp[h1,h2,this]
 have:cI a.At b.At≠0:=fun h=>h1 (hI.1 h)
 rw[if_pos this]
 simp[h1,this]
def cL(a b:Lcy):Bool:=decide (a.At<b.At)||(decide (a.At=b.At)&&(Op.bytesLess a.Node b.Node||(decide (a.Node=b.Node)&&Op.bytesLess a.Name b.Name)))
theorem Kzr(a b:Lcy):decide (cC a b<0)=cL a b:=by
 unfold cC cL
 by_cases h1:a.At<b.At
 ·have:cI a.At b.At=-1:=by unfold cI;rw[if_pos h1]
  rw[this,dT h1];rfl
 by_cases h2:a.At=b.At
 ·have:cI a.At b.At=0:=by unfold cI;rw[if_neg h1,if_neg (by omega)]
  rw[this,dF h1,dT h2]
  simp only[ne_eq,not_true_eq_false,if_false,Bool.false_or,Bool.true_and]
  by_cases h3:a.Node=b.Node
  ·rw[if_neg (by simpa using (Kzo _ _).2 h3),Kzl,dT h3,h3,Kzf];rfl
  rw[if_pos (fun h=>h3 ((Kzo _ _).1 h)),Kzl,dF h3];simp
 have:cI a.At b.At=1:=by unfold cI;rw[if_neg h1,if_pos (by omega)]
 rw[this,dF h1,dF h2];rfl
theorem Kzs:Ord cL where
 sy a b h:=by
  unfold cL at *
  simp only[Bool.or_eq_true,Bool.and_eq_true,decide_eq_true_eq,Bool.or_eq_false_iff,Bool.and_eq_false_iff,decide_eq_false_iff_not] at *
  rcases h with h | ⟨h1,h | ⟨h2,h⟩⟩
  ·exact⟨by omega,.inl (by omega)⟩
  ·refine⟨by omega,.inr ⟨Kzm _ _ h,.inl fun e=>?_⟩⟩
   rw[e,Kzf] at h;cases h
  exact⟨by omega,.inr ⟨by rw[h2,Kzf],.inr (Kzm _ _ h)⟩⟩
 tr a b c h g:=by
  unfold cL at *
  simp only[Bool.or_eq_false_iff,Bool.and_eq_false_iff,decide_eq_false_iff_not] at *
  obtain⟨h1,h2⟩:=h
  obtain⟨g1,g2⟩:=g
  refine⟨by omega,?_⟩
  by_cases e:a.At=c.At
  ·have e1:a.At=b.At:=by omega
   have e2:b.At=c.At:=by omega
   obtain⟨h3,h4⟩:=h2.resolve_left (by omega)
   obtain⟨g3,g4⟩:=g2.resolve_left (by omega)
   refine .inr ⟨Kzn _ _ _ h3 g3,?_⟩
   by_cases e3:a.Node=c.Node
   ·have e4:a.Node=b.Node:=by
     refine Kzh _ _ h3 ?_
     rw[e3];exact g3
    have e5:b.Node=c.Node:=by rw[←e4];exact e3
    exact .inr (Kzn _ _ _ (h4.resolve_left (by simpa using e4)) (g4.resolve_left (by simpa using e5)))
   exact .inl e3
  exact .inl e
end Go.Gk
namespace Go.Gk
def AtS(a:Lcv):Prop:=a.Words.length≤1000
def ClS(c:Lcy):Prop:=c.Node.length≤1000∧c.Name.length≤1000∧AtS c.Value
def attrE(k:Nat)(a:Lcv):Int:=(Lei k a).getD 0
theorem Kyp(k:Nat)(hk:10<k)(a:Lcv)(h:AtS a):Lei k a=some (attrE k a)∧Lfx k a=some (attrE k a):=by
 obtain⟨e,h1,h2⟩:=Kbf k hk a (by have:a.Words.length≤1000:=h;omega)
 have:attrE k a=e:=by unfold attrE;rw[h1];rfl
 rw[this]
 exact⟨h1,h2⟩
def momB(n:Int):Bool:=decide (n≥0)&&decide (n<345686400)
theorem Kyq(n:Int):Lel n=some (momB n)∧Lgb n=some (momB n):=by
 refine⟨rfl,?_⟩
 unfold Lgb
 rw[Kcb]
 simp only[bi_some]
 congr 1
 unfold momB
 rw[Bool.eq_iff_iff]
 simp only[decide_eq_true_eq,Bool.and_eq_true]
 omega
def chkE(k:Nat)(l:List Lcy)(i:Nat)(x:Lcy):Int:=
 if !momB x.At then 1 else if !keyB x.Node||!keyB x.Name then 5 else if attrE k x.Value≠0 then attrE k x.Value else if 0<i∧0≤cC (l.getD (i - 1) x) x then 7 else 0
theorem Kyr{α:Type}{f:Nat→α→Unit→Option (LS Unit Int)}:∀ (l:List α) (i:Nat) (E:Nat→α→Int) (h:∀ j x,l[j]?=some x→f (i+j) x ()=some (if E (i+j) x=0 then .go () else .out (E (i+j) x))),
  ∃ r:Int,rangeM f i l ()=some (if r=0 then .go () else .out r)∧(r=0→∀ j x,l[j]?=some x→E (i+j) x=0)
 | [],i,E,h=>⟨0,rfl,fun _ j x hx=>by simp at hx⟩
 | x :: l,i,E,h=>by
  have h0:=h 0 x rfl
  simp only[Nat.add_zero] at h0
  by_cases he:E i x=0
  ·rw[if_pos he] at h0
   obtain⟨r,h1,h2⟩:=Kyr l (i+1) E (fun j y hy=>by
    have:=h (j+1) y hy
    rw[show i+(j+1)=i+1+j by omega] at this
    exact this)
   refine⟨r,by simp only[rangeM,h0];exact h1,fun hr j y hy=>?_⟩
   cases j with
   | zero=>
    simp at hy
    subst hy
    exact he
   | succ j=>
    have:=h2 hr j y (by simpa using hy)
    rw[show i+(j+1)=i+1+j by omega]
    exact this
  ·rw[if_neg he] at h0
   exact⟨E i x,by simp only[rangeM,h0,if_neg he],fun hr=>absurd hr he⟩
theorem Kys(k:Nat)(hk:2000<k)(l:List Lcy)(hl:l.length≤1000)(hs:∀ c∈l,ClS c) :
  ∃ e:Int,Leq k l=some e∧Lgd k l=some e∧(e=0→(l.Pairwise fun x y=>cL x y=true)∧∀ j x,l[j]?=some x→chkE k l (0+j) x=0):=by
 have step:∀ (j:Nat) (x:Lcy),l[j]?=some x→(bif decide (((j:Int):Int)>0) then(bi (getZ l (wi ((j:Int) - 1))) fun x41=>bi (Lep x41 x) fun y43=>some (decide ((y43:Int)≥0))) else(some false))=some (decide (0<j∧0≤cC (l.getD (j - 1) x) x)):=fun j x hx=>by
  have hj:=(gEs.1 hx).1
  by_cases h0:0<j
  ·rw[dT (show(j:Int)>0 by omega),cond_true,Law (by omega) (by omega),show(j:Int) - 1=((j - 1:Nat):Int) by omega]
   rw[Lcb (gGe (show j - 1<l.length by omega)),bi_some,cmpC,bi_some]
   congr 1
   refine decide_eq_decide.2 ?_
   rw[List.getD_eq_getElem?_getD,gGe (show j - 1<l.length by omega)]
   simp[h0]
  ·rw[dF (show ¬ (j:Int)>0 by omega),cond_false,dF (fun h=>h0 h.1)]
 have keys:∀ x∈l,Leb k x.Node=some (keyB x.Node)∧Leb k x.Name=some (keyB x.Name)∧Lfv x.Node=some (keyB x.Node)∧Lfv x.Name=some (keyB x.Name):=fun x hx=>by
  obtain⟨h1,h2,_⟩:=hs x hx
  exact⟨keyP k _ (by omega) (by omega),keyP k _ (by omega) (by omega),keyR _ (by omega),keyR _ (by omega)⟩
 obtain⟨r,h1,h2⟩:=Kyr (f:=fun i3 x5 s4=>bi (Lel x5.At) fun y14=>bif !y14 then(bi (some 1) fun v=>some (.out v)) else(bi (Leb k x5.Node) fun y20=>bi (bif !y20 then(some true) else(bi (Leb k x5.Name) fun y26=>some (!y26))) fun q22=>bif q22 then(bi (some 5) fun v=>some (.out v)) else(bi (Lei k x5.Value) fun y32=>bif (y32:Int) != 0 then(bi (some y32) fun v=>some (.out v)) else(bi (bif decide (((i3:Int):Int)>0) then(bi (getZ l (wi ((i3:Int) - 1))) fun x41=>bi (Lep x41 x5) fun y43=>some (decide ((y43:Int)≥0))) else(some false)) fun q38=>bif q38 then(bi (some 7) fun v=>some (.out v)) else(some (.go ())))))) l 0 (chkE k l) (fun j x hx=>by
  have hm:=mOg hx
  obtain⟨k1,k2,_,_⟩:=keys x hm
  simp only[Nat.zero_add]
  rw[(Kyq x.At).1,k1,k2,(Kyp k (by omega) x.Value (hs x hm).2.2).1,step j x hx]
  unfold chkE
  simp only[bi_some]
  cases momB x.At with
  | false=>rfl
  | true=>
   cases keyB x.Node with
   | false=>rfl
   | true=>
    cases keyB x.Name with
    | false=>rfl
    | true=>
     simp only[Bool.not_true,cond_false,Bool.or_self,bi_some,Bool.false_eq_true,if_false]
     by_cases ha:attrE k x.Value=0
     ·rw[ha]
      simp only[bne_self_eq_false,cond_false,ne_eq,not_true_eq_false,if_false]
      by_cases h7:0<j∧0≤cC (l.getD (j - 1) x) x
      ·rw[dT h7,if_pos h7];rfl
      ·rw[dF h7,if_neg h7];rfl
     ·have hb:(attrE k x.Value != 0)=true:=by simpa using ha
      rw[hb,if_pos ha]
      simp[ha])
 have h1':rangeM (σ:=Unit) (ρ:=Int) (fun i3 x5 s4=>bi (Lgb x5.At) fun y14=>bif !y14 then(bi (some 1) fun v=>some (.out v)) else(bi (Lfv x5.Node) fun y20=>bi (bif !y20 then(some true) else(bi (Lfv x5.Name) fun y26=>some (!y26))) fun q22=>bif q22 then(bi (some 5) fun v=>some (.out v)) else(bi (Lfx k x5.Value) fun y32=>bif (y32:Int) != 0 then(bi (some y32) fun v=>some (.out v)) else(bi (bif decide (((i3:Int):Int)>0) then(bi (getZ l (wi ((i3:Int) - 1))) fun x41=>bi (Lgc x41 x5) fun y43=>some (decide ((y43:Int)≥0))) else(some false)) fun q38=>bif q38 then(bi (some 7) fun v=>some (.out v)) else(some (.go ())))))) 0 l ()=some (if r=0 then .go () else .out r):=by
  rw[←h1]
  have congr_M:∀ {f g:Nat→Lcy→Unit→Option (LS Unit Int)} (l':List Lcy) (i:Nat),(∀ x∈l',∀ j,f j x ()=g j x ())→rangeM f i l' ()=rangeM g i l' ():=fun {f g} l'=>by
   induction l' with
   | nil=>intro i _;rfl
   | cons x l' ih=>
    intro i h
    simp only[rangeM,h x List.mem_cons_self i]
    cases g i x () with
    | none=>rfl
    | some y=>cases y with
     | go s=>exact ih (i+1) fun y hy=>h y (mCo _ hy)
     | out v=>rfl
  refine congr_M l 0 fun x hm j=>?_
  obtain⟨k1,k2,k3,k4⟩:=keys x hm
  obtain⟨a1,a2⟩:=Kyp k (by omega) x.Value (hs x hm).2.2
  rw[(Kyq x.At).1,(Kyq x.At).2,k1,k2,k3,k4,a1,a2]
  rfl
 refine⟨r,?_,?_,fun hr=>?_⟩
 ·unfold Leq
  rw[dF (show ¬ (l.length:Int)>2000 by omega),cond_false,h1]
  by_cases hr:r=0
  ·rw[if_pos hr,hr];rfl
  ·rw[if_neg hr];rfl
 ·unfold Lgd
  rw[dF (show ¬ (l.length:Int)>2000 by omega),cond_false,h1']
  by_cases hr:r=0
  ·rw[if_pos hr,hr];rfl
  ·rw[if_neg hr];rfl
 ·have hz:=h2 hr
  refine⟨?_,hz⟩
  have adj:∀ i (hi:i+1<l.length),cL l[i] l[i+1]=true:=fun i hi=>by
   have:=hz (i+1) l[i+1] (gGe hi)
   rw[Nat.zero_add] at this
   unfold chkE at this
   split at this
   ·cases this
   ·split at this
    ·cases this
    ·split at this
     ·rename_i h;exact absurd this h
     ·split at this
      ·cases this
      ·rename_i h
       rw[List.getD_eq_getElem?_getD,show i+1 - 1=i by omega,gGe (show i<l.length by omega)] at h
       rw[←Kzr]
       refine dT ?_
       have h':¬ (0:Int)≤cC l[i] l[i+1]:=fun h''=>h ⟨by omega,h''⟩
       omega
  exact List.pairwise_iff_getElem.2 fun i j hi hj hij=>by
   obtain⟨d,rfl⟩:∃ d,j=i+1+d:=⟨j - (i+1),by omega⟩
   clear hij
   induction d with
   | zero=>exact adj i hj
   | succ d ih=>
    have h1:=ih (by omega)
    have h2:=adj (i+1+d) hj
    cases h3:cL l[i] l[i+1+(d+1)] with
    | true=>rfl
    | false=>
     have h4:=Kzs.sy _ _ h2
     have:=Kzs.tr _ _ _ h3 h4
     rw[h1] at this
     cases this
theorem Kyt(k:Nat)(hk:2000<k)(l:List Lcy)(hl:l.length≤1000)(hs:∀ c∈l,ClS c) :
  ∃ e:Int,Leq k l=some e∧Lgd k l=some e∧(e=0→l.Pairwise fun x y=>cL x y=true):=
 let ⟨e,a,b,c⟩:=Kys k hk l hl hs
 ⟨e,a,b,fun h=>(c h).1⟩
theorem Kyu{k:Nat}{l:List Lcy}{i:Nat}{x:Lcy}(h:chkE k l i x=0):0≤x.At∧x.At<345686400:=by
 unfold chkE at h
 cases hm:momB x.At with
 | false=>rw[hm] at h;simp at h
 | true=>
  unfold momB at hm
  simpa using hm
end Go.Gk
namespace Go.Gk
theorem Lae:∀ (l:List Int) ,Lgh l=some ((l.find? fun x=>x != 0).getD 0):=fun l=>by
 have key:∀ (l:List Int) (i:Nat),(bi (rangeM (σ:=Unit) (ρ:=Int) (fun i1 x3 s2=>bif (x3:Int) != 0 then(bi (some x3) fun v=>some (.out v)) else(some (.go ()))) i l ()) fun q=>goI q fun a6=>some 0)=some ((l.find? fun x=>x != 0).getD 0):=by
  intro l
  induction l with
  | nil=>intro i;rfl
  | cons x l ih=>
   intro i
   simp only[rangeM,List.find?_cons]
   by_cases h:x=0
   ·subst h
    exact ih (i+1)
   have:(x != 0)=true:=by simpa using h
   rw[this];rfl
 exact key l 0
theorem ors2(a b:Int):Lgh [a,b]=some (if a≠0 then a else b):=by
 rw[Lae]
 by_cases ha:a=0<;>by_cases hb:b=0<;>simp[ha,hb]
theorem Laf{α β:Type}{chk:α→Option Int}{a b:α}{ea eb:Int}(ha:chk a=some ea)(hb:chk b=some eb)(v:Int→β)(k:Nat)(hk:10<k) :
  loopM (σ:=Int) (ρ:=Unit ⊕ β) (fun s2=>bif decide ((s2:Int)<2) then(bi (getZ ([a,b]:List α) s2) fun x12=>bi (chk x12) fun y14=>bif (y14:Int) != 0 then(bi (some (v y14)) fun v=>some (.out (.inr v))) else(some (.go (wi (s2+1))))) else(some (.out (.inl ())))) k 0 =
   some (if (if ea≠0 then ea else eb)≠0 then .inr (v (if ea≠0 then ea else eb)) else .inl ()):=by
 obtain⟨k,rfl⟩:∃ j,k=j+1+1+1:=⟨k - 3,by omega⟩
 have g0:getZ ([a,b]:List α) 0=some a:=rfl
 have g1:getZ ([a,b]:List α) 1=some b:=rfl
 have w1:wi (0+1)=1:=by decide
 have w2:wi (1+1)=2:=by decide
 have l0:decide ((0:Int)<2)=true:=rfl
 have l1:decide ((1:Int)<2)=true:=rfl
 have l2:decide ((2:Int)<2)=false:=rfl
 by_cases h1:ea=0
 ·subst h1
  rw[Kdj 1 (by rw[l0,g0];simp only[cond_true,bi_some,ha,bne_self_eq_false,cond_false,w1])]
  by_cases h2:eb=0
  ·subst h2
   rw[Kdj 2 (by rw[l1,g1];simp only[cond_true,bi_some,hb,bne_self_eq_false,cond_false,w2])]
   rw[Kdk (.inl ()) (by rw[l2];rfl)]
   rfl
  ·have h2':(eb != 0)=true:=by simpa using h2
   rw[Kdk (.inr (v eb)) (by rw[l1,g1];simp only[cond_true,bi_some,hb,h2'])]
   simp[h2]
 ·have h1':(ea != 0)=true:=by simpa using h1
  rw[Kdk (.inr (v ea)) (by rw[l0,g0];simp only[cond_true,bi_some,ha,h1'])]
  simp[h1]
theorem Lag(s1 s2:List Int):∃ y,Lez s1 s2=some y:=by
 unfold Lez
 have key:∀ (l:List Int) (i:Nat),∃ r,rangeM (σ:=Unit) (ρ:=Int) (fun i1 x4 s3=>bif decide (((i1:Int):Int)≥(s2.length:Int)) then(bi (some 1) fun v=>some (.out v)) else(bi (getZ s2 (i1:Int)) fun x17=>bi (Len x4 x17) fun y19=>bif (y19:Int) != 0 then(bi (some y19) fun v=>some (.out v)) else(some (.go ())))) i l ()=some r:=by
  intro l
  induction l with
  | nil=>intro i;exact⟨_,rfl⟩
  | cons x l ih=>
   intro i
   simp only[rangeM]
   by_cases h:(i:Int)≥(s2.length:Int)
   ·rw[dT h];exact⟨_,rfl⟩
   rw[dF h,cond_false,Lcb (gGe (show i<s2.length by omega)),bi_some,Lmv,bi_some]
   cases (cI x s2[i] != 0) with
   | true=>exact⟨_,rfl⟩
   | false=>exact ih (i+1)
 obtain⟨r,hr⟩:=key s1 0
 rw[hr,bi_some]
 cases r with
 | go u=>
  simp only[goI]
  cases decide (((s1.length:Int):Int)<(s2.length:Int))<;>exact⟨_,rfl⟩
 | out v=>exact⟨_,rfl⟩
end Go.Gk
namespace Go.Gk
section
variable{K V:Type}[BEq K][LawfulBEq K][KLt K]
theorem Kzt(e:K×V)(m:List (K×V))(k:K):mGet (e :: m) k=if k==e.1 then some e.2 else mGet m k:=by
 unfold mGet
 simp only[List.find?_cons]
 cases (k==e.1)<;>rfl
theorem Kzu{m:List (K×V)}{k:K}{v:V}(hn:∀ e∈m,e.1≠k)(k':K):mGet (mIns k v m) k'=if k'==k then some v else mGet m k':=by
 induction m with
 | nil=>simp[mIns,Kzt]
 | cons e m ih=>
  simp only[mIns]
  cases hlt:KLt.lt k e.1 with
  | true=>simp[Kzt]
  | false=>
   simp only[cond_false,Kzt,ih fun x hx=>hn x (List.mem_cons_of_mem _ hx)]
   by_cases h1:k'=e.1
   ·subst h1
    have:(e.1==k)=false:=by simpa using hn e (mCs ..)
    simp[this]
   have:(k'==e.1)=false:=by simpa using h1
   simp[this]
theorem Kzv{m:List (K×V)}{k:K}{v:V}(hn:∀ e∈m,e.1≠k):mSet m k v=mIns k v m:=by
 unfold mSet
 have:m.findIdx? (fun e=>k==e.1)=none:=by
  rw[List.findIdx?_eq_none_iff]
  intro e he
  simpa using (hn e he).symm
 rw[this]
theorem Kzw{m:List (K×V)}{k:K}{v:V}{i:Nat}(h:m.findIdx? (fun e=>k==e.1)=some i):mSet m k v=m.set i (k,v):=by unfold mSet;rw[h]
theorem Kzx(m:List (K×V))(k:K)(v:V)(k':K):mGet (mSet m k v) k'=if k'==k then some v else mGet m k':=by
 cases hf:m.findIdx? (fun e=>k==e.1) with
 | none=>
  have hn:∀ e∈m,e.1≠k:=fun e he=>by
   have:=List.findIdx?_eq_none_iff.1 hf e he
   intro e2;subst e2;simp at this
  rw[Kzv hn,Kzu hn]
 | some i=>
  rw[Kzw hf]
  induction m generalizing i with
  | nil=>simp at hf
  | cons e m ih=>
   rw[List.findIdx?_cons] at hf
   by_cases hk:k=e.1
   ·subst hk
    simp at hf
    subst hf
    simp only[List.set_cons_zero,Kzt]
    by_cases h2:k'=e.1
    ·subst h2;simp
    have:(k'==e.1)=false:=by simpa using h2
    simp[this]
   have hk2:(k==e.1)=false:=by simpa using hk
   rw[hk2] at hf
   simp only[Bool.false_eq_true,if_false,Option.map_eq_some_iff] at hf
   obtain⟨j,hj,rfl⟩:=hf
   simp only[List.set_cons_succ,Kzt,ih j hj]
   by_cases h2:k'=e.1
   ·subst h2
    have:(e.1==k)=false:=by simpa using Ne.symm hk
    simp[this]
   have:(k'==e.1)=false:=by simpa using h2
   simp[this]
end
abbrev sub(c:Lcy):Lda:=⟨c.Node,c.Name⟩
def gT(m:List (Lda×(Tl Lcy)))(s:Lda):Tl Lcy:=(mGet m s).getD ((1,[]):Tl Lcy)
theorem Kzy(m:List (Lda×(Tl Lcy)))(s:Lda)(r:Tl Lcy)(s':Lda):gT (mSet m s r) s'=if s'=s then r else gT m s':=by
 unfold gT
 rw[Kzx]
 by_cases h:s'=s
 ·subst h;simp
 have:(s'==s)=false:=by simpa using h
 simp[this,h]
structure InvR(al:List Bool)(m:List (Lda×(Tl Lcy)))(L:List Lcy):Prop where
 xs:∀ s,(gT m s).2=L.filter fun c=>decide (sub c=s)
 lv:∀ s,(gT m s).1=1∨∃ q,(gT m s).1=q+2∧al[q]?=some true
 ds:∀ s s',s≠s'→(gT m s).1=(gT m s').1→(gT m s).1=1
theorem Kzz(al:List Bool):InvR al [] []:=⟨fun s=>rfl,fun s=>.inl rfl,fun s s' _ _=>rfl⟩
theorem Laa{al:List Bool}{m:List (Lda×(Tl Lcy))}{L:List Lcy}(h:InvR al m L)(hl:L.length≤900)(x:Lcy) :
  ∃ r al',appT al (gT m (sub x)) [x]=some (r,al')∧InvR al' (mSet m (sub x) r) (L++[x]):=by
 have hlen:(gT m (sub x)).2.length≤900:=by rw[h.xs];exact Nat.le_trans (List.length_filter_le _ _) hl
 have fin:∀ al0:List Bool,al0.length=al.length→(∀ s,s≠sub x→(gT m s).1=1∨∃ q,(gT m s).1=q+2∧al0[q]?=some true)→
   InvR (al0++[true]) (mSet m (sub x) (al.length+2,(gT m (sub x)).2++[x])) (L++[x]):=by
  intro al0 h0 hlv
  refine⟨fun s=>?_,fun s=>?_,fun s s' hn he=>?_⟩
  ·rw[Kzy,List.filter_append]
   by_cases hs:s=sub x
   ·subst hs
    rw[if_pos rfl,h.xs]
    simp
   ·rw[if_neg hs,h.xs]
    have:decide (sub x=s)=false:=by simpa using fun e=>hs e.symm
    simp[List.filter_cons,this]
  ·rw[Kzy]
   by_cases hs:s=sub x
   ·rw[if_pos hs]
    exact .inr ⟨al.length,rfl,by rw[gAr (by omega),h0];simp⟩
   ·rw[if_neg hs]
    rcases hlv s hs with h1 | ⟨q,h1,h2⟩
    ·exact .inl h1
    ·refine .inr ⟨q,h1,?_⟩
     rw[gAl (gEs.1 h2).1]
     exact h2
  ·rw[Kzy] at he ⊢
   rw[Kzy] at he
   have lt:∀ s,s≠sub x→(gT m s).1≠al.length+2:=fun s hs e=>by
    rcases hlv s hs with h1 | ⟨q,h1,h2⟩
    ·omega
    ·have:=(gEs.1 h2).1
     omega
   by_cases hs:s=sub x
   ·rw[if_pos hs] at he
    rw[if_neg (fun e=>hn (hs.trans e.symm))] at he
    exact absurd he.symm (lt s' fun e=>hn (hs.trans e.symm))
   ·rw[if_neg hs] at he ⊢
    by_cases hs':s'=sub x
    ·rw[if_pos hs'] at he
     exact absurd he (lt s hs)
    ·rw[if_neg hs'] at he
     exact h.ds s s' hn he
 unfold appT
 rw[Lbe (by simp;omega)]
 simp only[bi_some,List.isEmpty_cons,cond_false]
 rcases h.lv (sub x) with h1 | ⟨q,h1,h2⟩
 ·rw[h1]
  exact⟨_,_,rfl,fin al rfl fun s hs=>h.lv s⟩
 ·rw[h1]
  simp only[h2,Option.getD_some,cond_true]
  refine⟨_,_,rfl,fin (al.set q false) (by simp) fun s hs=>?_⟩
  rcases h.lv s with h3 | ⟨q',h3,h4⟩
  ·exact .inl h3
  ·refine .inr ⟨q',h3,?_⟩
   have hq:q≠q':=fun e=>by
    subst e
    have:=h.ds s (sub x) hs (h3.trans h1.symm)
    omega
   rw[gSn hq]
   exact h4
theorem Lab(l:List Lcy)(hl:l.length≤900)(fresh:Int)(al:List Bool):∃ m al',Lex l fresh al=some (⟨fresh,m⟩,al')∧InvR al' m l:=by
 have key:∀ (R:List Lcy) (i:Nat) (L:List Lcy) (al:List Bool) (m:List (Lda×(Tl Lcy))),InvR al m L→(L++R).length≤900→
   ∃ m' al',rangeF (σ:=(List Bool)×(List (Lda×(Tl Lcy)))) (fun i1 x3 s2=>bi (appT s2.1 ((mGet s2.2 (⟨x3.Node,x3.Name⟩:Lda)).getD ((1,[]):Tl Lcy)) [x3]) fun y16=>some (y16.2,(mSet s2.2 (⟨x3.Node,x3.Name⟩:Lda) y16.1))) i R (al,m)=some (al',m')∧InvR al' m' (L++R):=by
  intro R
  induction R with
  | nil=>intro i L al m h _;exact⟨m,al,rfl,by simpa using h⟩
  | cons x R ih=>
   intro i L al m h hlen
   have hlen':=hlen
   simp only[List.length_append,List.length_cons] at hlen'
   obtain⟨r,al1,e1,e2⟩:=Laa h (by omega) x
   obtain⟨m',al',e3,e4⟩:=ih (i+1) (L++[x]) al1 _ e2 (by simp;omega)
   refine⟨m',al',?_,by simpa using e4⟩
   simp only[rangeF]
   rw[show appT al ((mGet m (⟨x.Node,x.Name⟩:Lda)).getD ((1,[]):Tl Lcy)) [x]=some (r,al1) from e1]
   exact e3
 obtain⟨m,al',h1,h2⟩:=key l 0 [] al [] (Kzz al) (by simpa using hl)
 refine⟨m,al',?_,by simpa using h2⟩
 unfold Lex
 rw[h1]
 rfl
theorem Lac(p q:Lcy→Bool)(fresh v:Int):∀ L:List Lcy,kGo p fresh v (L.filter q)=kGo (fun c=>q c&&p c) fresh v L
 | []=>rfl
 | c :: L=>by
  rw[List.filter_cons]
  cases hq:q c with
  | true=>simp only[if_true,kGo,hq,Bool.true_and,Lac p q fresh v L]
  | false=>simp only[Bool.false_eq_true,if_false,kGo,hq,Bool.false_and,Lac p q fresh v L]
theorem Lad{al:List Bool}{m:List (Lda×(Tl Lcy))}{l:List Lcy}(h:InvR al m l)(hl:l.length≤900)(fresh:Int)(node name:Str)(v:Int) :
  Ley ⟨fresh,m⟩ node name v=Lgl l fresh node name v:=by
 unfold Ley Lgl
 have e:((mGet m (⟨node,name⟩:Lda)).getD ((1,[]):Tl Lcy)).2=l.filter fun c=>decide (sub c=⟨node,name⟩):=h.xs ⟨node,name⟩
 simp only[e]
 have hf:=List.length_filter_le (fun c=>decide (sub c=(⟨node,name⟩:Lda))) l
 rw[show Nat.ble (l.filter fun c=>decide (sub c=(⟨node,name⟩:Lda))).length 4294967296=true from Nat.ble_eq_true_of_le (by omega),show Nat.ble l.length 4294967296=true from Nat.ble_eq_true_of_le (by omega)]
 rw[←List.filter_reverse,Lac]
 congr 3
 funext c
 unfold kHit
 rw[Bool.eq_iff_iff]
 simp only[Bool.and_eq_true,decide_eq_true_eq,beq_iff_eq,Lda.mk.injEq]
 constructor
 ·rintro⟨⟨a,b⟩,c⟩;exact⟨a,b,c⟩
 ·rintro⟨a,b,c⟩;exact⟨⟨a,b⟩,c⟩
end Go.Gk
namespace Go.Gk
def freE(n:Int):Int:=if 1≤n∧n≤345686400 then 0 else 1
theorem Kyk(n:Int):Ler n=some (freE n)∧Lge n=some (freE n):=by
 unfold Ler Lge Ldw Lfp freE
 simp only[bi_some]
 by_cases h:1≤n∧n≤345686400
 ·rw[if_pos h,dF (show ¬ n<1 by omega),dF (show ¬ n>345686400 by omega),dT h.1,dT h.2]
  exact⟨rfl,rfl⟩
 rw[if_neg h]
 by_cases h1:n<1
 ·rw[dT h1,dF (show ¬ 1≤n by omega)]
  exact⟨rfl,rfl⟩
 rw[dF h1,dT (show n>345686400 by omega),dT (show 1≤n by omega),dF (show ¬ n≤345686400 by omega)]
 exact⟨rfl,rfl⟩
def keyE(s:Str):Int:=if keyB s then 0 else 5
theorem Kyl(s:Str)(hs:s.length≤1000):Lgg s=some (keyE s):=by
 unfold Lgg Lgf keyE
 rw[keyR s (by omega)]
 simp only[bi_some]
 cases keyB s<;>rfl
def momE(n:Int):Int:=if momB n then 0 else 1
theorem Kym(n:Int):Lew n=some (momE n)∧Lgi n=some (momE n):=by
 unfold Lew Lgi momE
 rw[(Kyq n).1,(Kyq n).2]
 simp only[bi_some]
 cases momB n<;>exact⟨rfl,rfl⟩
theorem Kyn(k:Nat)(hk:2000<k)(a b:Str)(ha:a.length≤1000)(hb:b.length≤1000):Leu k [a,b]=some (!keyB a||!keyB b):=by
 unfold Leu Let Les
 simp only[rangeM]
 rw[keyP k a (by omega) (by omega),keyP k b (by omega) (by omega)]
 cases keyB a<;>cases keyB b<;>rfl
theorem ors5(a b c d e:Int):Lgh [a,b,c,d,e]=some (if a≠0 then a else if b≠0 then b else if c≠0 then c else if d≠0 then d else e):=by
 rw[Lae]
 by_cases ha:a=0<;>by_cases hb:b=0<;>by_cases hc:c=0<;>by_cases hd:d=0<;>by_cases he:e=0<;>simp[ha,hb,hc,hd,he]
def zAttr:Lcv:=⟨0,0,[],(0,0,0,0)⟩
theorem Kyo(l:List Lcy)(hl:l.length≤900)(fresh:Int)(node name:Str)(v:Int):∃ a kn,Lgl l fresh node name v=some (a,kn):=by
 unfold Lgl
 rw[show Nat.ble l.length 4294967296=true from Nat.ble_eq_true_of_le (by omega)]
 exact⟨_,_,rfl⟩
end Go.Gk
