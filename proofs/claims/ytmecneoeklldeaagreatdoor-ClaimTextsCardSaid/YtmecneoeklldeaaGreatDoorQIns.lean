import Derived.Test.YtmecneoeklldeaaGreatDoorCCond
set_option linter.all false
set_option maxRecDepth 100000
namespace Go.Gk
theorem Kpy:∀ a:List UInt8,Op.bytesLess a a=false
 | []=>rfl
 | x :: a=>by simp[Op.bytesLess,Kpy a]
theorem Kpz:∀ a b c:List UInt8,Op.bytesLess a b=true→Op.bytesLess b c=true→Op.bytesLess a c=true
 | _,[],_,h,_=>by cases ‹List UInt8›<;>simp[Op.bytesLess] at h
 | _,_ :: _,[],_,h=>by simp[Op.bytesLess] at h
 | [],_ :: _,_ :: _,_,_=>rfl
 | x :: a,y :: b,z :: c,h,k=>by
  simp only[Op.bytesLess,Bool.or_eq_true,decide_eq_true_eq,Bool.and_eq_true,beq_iff_eq] at h k ⊢
  rcases h with h | ⟨rfl,h⟩
  ·rcases k with k | ⟨rfl,k⟩
   ·exact .inl (UInt8.lt_trans h k)
   exact .inl h
  rcases k with k | ⟨rfl,k⟩
  ·exact .inl k
  exact .inr ⟨rfl,Kpz a b c h k⟩
theorem Kqa:∀ a b:List UInt8,Op.bytesLess a b=false→Op.bytesLess b a=false→a=b
 | [],[],_,_=>rfl
 | [],_ :: _,h,_=>by simp[Op.bytesLess] at h
 | _ :: _,[],_,h=>by simp[Op.bytesLess] at h
 | x :: a,y :: b,h,k=>by
  simp only[Op.bytesLess,Bool.or_eq_false_iff,decide_eq_false_iff_not,Bool.and_eq_false_iff,beq_eq_false_iff_ne,ne_eq] at h k
  have e:x=y:=by
   apply UInt8.toNat_inj.1
   have h1:=h.1;have k1:=k.1
   rw[UInt8.lt_iff_toNat_lt] at h1 k1
   omega
  subst e
  rw[Kqa a b (by simpa using h.2) (by simpa using k.2)]
section
variable{α:Type}{lt:α→α→Bool}
structure Ord(lt:α→α→Bool):Prop where
 sy:∀ a b,lt a b=true→lt b a=false
 tr:∀ a b c,lt a b=false→lt b c=false→lt a c=false
end
theorem Kqb:∀ a b:Str,decide (Lib.compareBytes a b<0)=Op.bytesLess a b
 | [],[]=>rfl
 | [],_ :: _=>rfl
 | _ :: _,[]=>rfl
 | a :: x,b :: y=>by
  unfold Lib.compareBytes Op.bytesLess
  by_cases h1:a<b
  ·simp[h1]
  by_cases h2:b<a
  ·have hne:(a==b)=false:=by
    rw[beq_eq_false_iff_ne]
    intro e
    subst e
    exact h1 h2
   simp[h1,h2,hne]
  have he:a=b:=UInt8.le_antisymm (UInt8.not_lt.1 h2) (UInt8.not_lt.1 h1)
  subst he
  simp[h1,Kqb x y]
theorem Kqc(a b:Str)(h:Op.bytesLess a b=true):Op.bytesLess b a=false:=by
 cases h2:Op.bytesLess b a with
 | false=>rfl
 | true=>have:=Kpz _ _ _ h h2;rw[Kpy] at this;cases this
theorem Kqd(a b c:Str)(h1:Op.bytesLess a b=false)(h2:Op.bytesLess b c=false):Op.bytesLess a c=false:=by
 cases h3:Op.bytesLess a c with
 | false=>rfl
 | true=>
  cases h4:Op.bytesLess b a with
  | true=>have:=Kpz _ _ _ h4 h3;rw[h2] at this;cases this
  | false=>
   have:=Kqa _ _ h1 h4
   subst this
   rw[h2] at h3;cases h3
theorem Kqe:∀ a b:Str,Lib.compareBytes a b=0 ↔ a=b
 | [],[]=>by simp[Lib.compareBytes]
 | [],_ :: _=>by simp[Lib.compareBytes]
 | _ :: _,[]=>by simp[Lib.compareBytes]
 | a :: x,b :: y=>by
  unfold Lib.compareBytes
  by_cases h1:a<b
  ·simp only[h1,if_true]
   constructor
   ·intro h;cases h
   intro h;cases h;exact absurd h1 (UInt8.lt_irrefl _)
  by_cases h2:b<a
  ·simp only[h1,h2,if_true,if_false]
   constructor
   ·intro h;cases h
   intro h;cases h;exact absurd h2 (UInt8.lt_irrefl _)
  have he:a=b:=UInt8.le_antisymm (UInt8.not_lt.1 h2) (UInt8.not_lt.1 h1)
  subst he
  simp only[h1,if_false,Kqe x y]
  simp
def cI(x y:Int):Int:=if x<y then -1 else if x>y then 1 else 0
def cC(a b:Kxd):Int:=if cI a.At b.At≠0 then cI a.At b.At else if Lib.compareBytes a.Node b.Node≠0 then Lib.compareBytes a.Node b.Node else Lib.compareBytes a.Name b.Name
theorem Lep(x y:Int):Kxz x y=some (cI x y):=by
 unfold Kxz Kxy cI
 simp only[bne_self_eq_false,bi_some,cond_false]
 by_cases h1:x<y
 ·rw[dT h1,if_pos h1];rfl
 rw[dF h1,if_neg h1]
 by_cases h2:x>y
 ·rw[dT h2,if_pos h2];rfl
 rw[dF h2,if_neg h2];rfl
theorem or3(x y z:Int):Kya [x,y,z]=some (if x≠0 then x else if y≠0 then y else z):=by
 unfold Kya
 by_cases hx:x=0
 ·subst hx
  by_cases hy:y=0
  ·subst hy
   by_cases hz:z=0
   ·subst hz;rfl
   have bz:(z != 0)=true:=by simpa using hz
   simp[rangeM,goI,bz]
  have by':(y != 0)=true:=by simpa using hy
  simp[rangeM,goI,by',hy]
 have bx:(x != 0)=true:=by simpa using hx
 simp[rangeM,goI,bx,hx]
theorem cmpC(a b:Kxd):Kyb a b=some (cC a b):=by
 unfold Kyb Kpo
 rw[Lep]
 simp only[bi_some]
 rw[or3]
 rfl
def cL(a b:Kxd):Bool:=decide (a.At<b.At)||(decide (a.At=b.At)&&(Op.bytesLess a.Node b.Node||(decide (a.Node=b.Node)&&Op.bytesLess a.Name b.Name)))
theorem Kqf(a b:Kxd):decide (cC a b<0)=cL a b:=by
 unfold cC cL
 by_cases h1:a.At<b.At
 ·have:cI a.At b.At=-1:=by unfold cI;rw[if_pos h1]
  rw[this,dT h1];rfl
 by_cases h2:a.At=b.At
 ·have:cI a.At b.At=0:=by unfold cI;rw[if_neg h1,if_neg (by omega)]
  rw[this,dF h1,dT h2]
  simp only[ne_eq,not_true_eq_false,if_false,Bool.false_or,Bool.true_and]
  by_cases h3:a.Node=b.Node
  ·rw[if_neg (by simpa using (Kqe _ _).2 h3),Kqb,dT h3,h3,Kpy];rfl
  rw[if_pos (fun h=>h3 ((Kqe _ _).1 h)),Kqb,dF h3];simp
 have:cI a.At b.At=1:=by unfold cI;rw[if_neg h1,if_pos (by omega)]
 rw[this,dF h1,dF h2];rfl
theorem Kqg:Ord cL where
 sy a b h:=by
  unfold cL at *
  simp only[Bool.or_eq_true,Bool.and_eq_true,decide_eq_true_eq,Bool.or_eq_false_iff,Bool.and_eq_false_iff,decide_eq_false_iff_not] at *
  rcases h with h | ⟨h1,h | ⟨h2,h⟩⟩
  ·exact⟨by omega,.inl (by omega)⟩
  ·refine⟨by omega,.inr ⟨Kqc _ _ h,.inl fun e=>?_⟩⟩
   rw[e,Kpy] at h;cases h
  exact⟨by omega,.inr ⟨by rw[h2,Kpy],.inr (Kqc _ _ h)⟩⟩
 tr a b c h g:=by
  unfold cL at *
  simp only[Bool.or_eq_false_iff,Bool.and_eq_false_iff,decide_eq_false_iff_not] at *
  obtain⟨h1,h2⟩:=h
  obtain⟨g1,g2⟩:=g
  refine⟨by omega,?_⟩
  by_cases e:a.At=c.At
  ·have e1:a.At=b.At:=by omega
   have e2:b.At=c.At:=by omega
   obtain⟨h3,h4⟩:=h2.resolve_left (by omega)
   obtain⟨g3,g4⟩:=g2.resolve_left (by omega)
   refine .inr ⟨Kqd _ _ _ h3 g3,?_⟩
   by_cases e3:a.Node=c.Node
   ·have e4:a.Node=b.Node:=by
     refine Kqa _ _ h3 ?_
     rw[e3];exact g3
    have e5:b.Node=c.Node:=by rw[←e4];exact e3
    exact .inr (Kqd _ _ _ (h4.resolve_left (by simpa using e4)) (g4.resolve_left (by simpa using e5)))
   exact .inl e3
  exact .inl e
end Go.Gk
