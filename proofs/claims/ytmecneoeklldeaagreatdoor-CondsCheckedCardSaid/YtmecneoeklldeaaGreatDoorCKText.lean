import Derived.Test.YtmecneoeklldeaaGreatDoorCCond
import Derived.Lib.ReplaceLaws
set_option linter.all false
set_option maxRecDepth 100000
namespace Go.Gk
def rpQ(s:Str):Str:=s.flatMap fun c=>if c=92 then[92,92] else if c=34 then[92,34] else[c]
theorem repK(c:UInt8)(new:Str):∀ (n:Nat) (s:Str),s.length≤n→Lib.replaceK [c] new (Lib.count s [c]) s=s.flatMap fun b=>if b=c then new else[b]
 | n,s,h=>by
  have hid:∀ x:Str,(∀ b∈x,b≠c)→(x.flatMap fun b=>if b=c then new else[b])=x:=fun x hx=>by
   induction x with
   | nil=>rfl
   | cons b x ih=>
    rw[List.flatMap_cons,if_neg (hx b mCs),ih (fun d hd=>hx d (mCo _ hd))]
    rfl
  rcases Kdp c s with h1 | ⟨x,t,rfl,h1⟩
  ·have e:Lib.count s [c]=0:=Lib.count_miss (by rw[Lib.index_one];exact Kdn h1)
   rw[e,hid s h1]
   rfl
  have hi:Lib.index (x++c :: t) [c]=(x.length:Int):=by rw[Lib.index_one];exact Kdo t h1
  have hd:(x++c :: t).drop (x.length+1)=t:=by
   rw[show x++c :: t=(x++[c])++t by simp,List.drop_left' (by simp)]
  have hc:Lib.count (x++c :: t) [c]=Lib.count t [c]+1:=by
   rw[Lib.count_hit (by simp) hi,show([c]:List UInt8).length=1 from rfl,hd];omega
  rw[hc,Lib.replaceK_hit _ _ _ _ _ hi,show([c]:List UInt8).length=1 from rfl,hd,List.flatMap_append,List.flatMap_cons,if_pos rfl,hid x h1,List.take_left' rfl]
  cases n with
  | zero=>simp at h
  | succ n=>
   rw[repK c new n t (by simp at h;omega),List.append_assoc]
theorem Kcn(c:UInt8)(new s:Str)(hn:new.length=2)(hs:s.length≤1000000):Krb s [c] new=some (s.flatMap fun b=>if b=c then new else[b]):=by
 unfold Krb
 rw[hn,Nat.ble_eq_true_of_le (show s.length+s.length * 2≤140737488355328 by omega),show Nat.blt s.length 4294967281=true from Nat.ble_eq_true_of_le (by omega)]
 show some _=_
 congr 1
 unfold Lib.replaceAll Lib.replace Lib.replaceNum
 rw[if_neg (by
  intro e
  have:=congrArg List.length (eq_of_beq e)
  simp[hn] at this),if_pos (.inl (by decide))]
 exact repK c new _ s (Nat.le_refl _)
theorem Kco(s:Str):((s.flatMap fun b=>if b=92 then[92,92] else[b]).flatMap fun b=>if b=34 then[92,34] else[b])=rpQ s:=by
 induction s with
 | nil=>rfl
 | cons c s ih=>
  unfold rpQ at ih ⊢
  rw[List.flatMap_cons,List.flatMap_append,ih,List.flatMap_cons]
  by_cases h:c=92
  ·subst h;rfl
  rw[if_neg h,if_neg h]
  by_cases h2:c=34
  ·subst h2;rfl
  rw[if_neg h2]
  simp[h2]
theorem Kcp(s:Str):s.length≤(rpQ s).length∧(rpQ s).length≤2 * s.length:=by
 induction s with
 | nil=>exact⟨Nat.le_refl _,Nat.le_refl _⟩
 | cons c s ih=>
  unfold rpQ at ih ⊢
  rw[List.flatMap_cons,List.length_append,List.length_cons]
  have:(if c=92 then[92,92] else if c=34 then[92,34] else[c]:List UInt8).length=1∨(if c=92 then[92,92] else if c=34 then[92,34] else[c]:List UInt8).length=2:=by
   split
   ·exact .inr rfl
   split
   ·exact .inr rfl
   exact .inl rfl
  omega
theorem Kcq(c:UInt8)(new:Str)(hn:new.length=2)(s:Str):(s.flatMap fun b=>if b=c then new else[b]).length≤2 * s.length:=by
 induction s with
 | nil=>simp
 | cons d s ih=>
  rw[List.flatMap_cons,List.length_append,List.length_cons]
  by_cases h:d=c
  ·rw[if_pos h,hn];omega
  rw[if_neg h,List.length_singleton];omega
theorem Kcr(k:Nat)(n:Int)(w:Str)(v:Int×Int×Int×Int)(hw:w.length≤100000) :
  Kwa k ⟨2,n,w,v⟩=some (34 :: (rpQ w++[34]))∧Kwt k ⟨2,n,w,v⟩=some (34 :: (rpQ w++[34])):=by
 have hl:=Kcp w
 have h2:=Kcq 92 [92,92] rfl w
 constructor
 ·unfold Kwa
  show gd (Nat.ble w.length 1099511627776) _=_
  rw[Nat.ble_eq_true_of_le (show w.length≤1099511627776 by omega)]
  rfl
 ·unfold Kwt
  rw[show((2:Int)==1)=false from rfl,show((2:Int)==3)=false from rfl,show((2:Int)==4)=false from rfl]
  simp only[cond_false]
  rw[Kcn 92 [92,92] w rfl (by omega),bi_some,Kcn 34 [92,34] _ rfl (by omega),bi_some,Kco,Kdq (by simp;omega),bi_some,Kdq (by simp;omega)]
  simp
def verT(a b c d:Int):Str:=Lib.join [Lib.itoa a,Lib.itoa b,Lib.itoa c,Lib.itoa d] [46]
theorem Kcs:∀ (k n:Nat),n<10 ^ (k+1)→(Lib.decDigits n).length≤k+1
 | 0,n,h=>by
  rw[Lib.decDigits,dif_pos (by simpa using h)]
  simp
 | k+1,n,h=>by
  rw[Lib.decDigits]
  split
  ·simp
  have h2:n / 10<10 ^ (k+1):=Nat.div_lt_of_lt_mul (by rw[Nat.mul_comm,←Nat.pow_succ];exact h)
  have:=Kcs k (n / 10) h2
  simp
  omega
theorem Kct(n:Nat):1≤(Lib.decDigits n).length:=by
 rw[Lib.decDigits]
 split
 ·simp
 simp
theorem Kcu{n:Int}(h0:0≤n)(h1:n<1000000000):(Lib.itoa n).length≤9∧1≤(Lib.itoa n).length∧Kqv n=some (Lib.itoa n):=by
 refine⟨?_,?_,Kdf (by omega) (by omega)⟩
 ·obtain⟨u,rfl⟩:∃ u:Nat,n=(u:Int):=⟨n.toNat,by omega⟩
  rw[Kdc]
  exact Kcs 8 u (by omega)
 obtain⟨u,rfl⟩:∃ u:Nat,n=(u:Int):=⟨n.toNat,by omega⟩
 rw[Kdc]
 exact Kct u
theorem Kcv(k:Nat)(hk:10<k)(n:Int)(w:Str)(a b c d:Int)(ha:0≤a∧a<1000000000)(hb:0≤b∧b<1000000000)(hc:0≤c∧c<1000000000)(hd:0≤d∧d<1000000000) :
  Kwa k ⟨4,n,w,(a,b,c,d)⟩=some (118 :: verT a b c d)∧Kwt k ⟨4,n,w,(a,b,c,d)⟩=some (118 :: verT a b c d)∧(verT a b c d).length≤40:=by
 obtain⟨a1,a2,a3⟩:=Kcu ha.1 ha.2
 obtain⟨b1,b2,b3⟩:=Kcu hb.1 hb.2
 obtain⟨c1,c2,c3⟩:=Kcu hc.1 hc.2
 obtain⟨d1,d2,d3⟩:=Kcu hd.1 hd.2
 obtain⟨k,rfl⟩:∃ m,k=m+6:=⟨k - 6,by omega⟩
 have hl:(verT a b c d).length≤40:=by unfold verT;rw[Lib.join_length];simp[Lib.lens];omega
 have hJ:Kqy [Lib.itoa a,Lib.itoa b,Lib.itoa c,Lib.itoa d] [46]=some (verT a b c d):=by
  unfold Kqy
  rw[Nat.ble_eq_true_of_le (show([Lib.itoa a,Lib.itoa b,Lib.itoa c,Lib.itoa d]:List Str).length≤4294967296 by simp),Nat.ble_eq_true_of_le (show(Lib.join [Lib.itoa a,Lib.itoa b,Lib.itoa c,Lib.itoa d] [46]).length≤1099511627776 by have:(Lib.join [Lib.itoa a,Lib.itoa b,Lib.itoa c,Lib.itoa d] [46]).length≤40:=hl;omega)]
  rfl
 refine⟨?_,?_,hl⟩
 ·unfold Kwa Kvz
  rw[show((4:Int)==2)=false from rfl,show((4:Int)==1)=false from rfl,show((4:Int)==3)=false from rfl]
  simp only[cond_false]
  rw[Kdr ([Lib.itoa a],1) (by rw[show getZ ([a,b,c,d]:List Int) 0=some a from rfl,bi_some,a3];rfl)]
  rw[Kdr ([Lib.itoa a,Lib.itoa b],2) (by rw[show getZ ([a,b,c,d]:List Int) 1=some b from rfl,bi_some,b3];rfl)]
  rw[Kdr ([Lib.itoa a,Lib.itoa b,Lib.itoa c],3) (by rw[show getZ ([a,b,c,d]:List Int) 2=some c from rfl,bi_some,c3];rfl)]
  rw[Kdr ([Lib.itoa a,Lib.itoa b,Lib.itoa c,Lib.itoa d],4) (by rw[show getZ ([a,b,c,d]:List Int) 3=some d from rfl,bi_some,d3];rfl)]
  rw[Kds [Lib.itoa a,Lib.itoa b,Lib.itoa c,Lib.itoa d] rfl,bi_some,hJ,bi_some,Kdq (by simp only[List.length_singleton];omega)]
  rfl
 ·unfold Kwt
  rw[show((4:Int)==1)=false from rfl,show((4:Int)==3)=false from rfl,show((4:Int)==4)=true from rfl]
  simp only[cond_false,cond_true]
  rw[Kdr ([Lib.itoa a],1) (by rw[show getZ ([a,b,c,d]:List Int) 0=some a from rfl,bi_some,a3];rfl)]
  rw[Kdr ([Lib.itoa a,Lib.itoa b],2) (by rw[show getZ ([a,b,c,d]:List Int) 1=some b from rfl,bi_some,b3];rfl)]
  rw[Kdr ([Lib.itoa a,Lib.itoa b,Lib.itoa c],3) (by rw[show getZ ([a,b,c,d]:List Int) 2=some c from rfl,bi_some,c3];rfl)]
  rw[Kdr ([Lib.itoa a,Lib.itoa b,Lib.itoa c,Lib.itoa d],4) (by rw[show getZ ([a,b,c,d]:List Int) 3=some d from rfl,bi_some,d3];rfl)]
  rw[Kds [Lib.itoa a,Lib.itoa b,Lib.itoa c,Lib.itoa d] rfl,bi_some,hJ,bi_some,Kdq (by simp only[List.length_singleton];omega)]
  rfl
theorem Kcw(k:Nat){n:Int}(w:Str)(v:Int×Int×Int×Int)(h1 : -9223372036854775808≤n)(h2:n≤9223372036854775807) :
  Kwa k ⟨1,n,w,v⟩=some (Lib.itoa n)∧Kwt k ⟨1,n,w,v⟩=some (Lib.itoa n):=by
 constructor
 ·unfold Kwa Kvz
  rw[show((1:Int)==2)=false from rfl,show((1:Int)==1)=true from rfl]
  simp only[cond_false,cond_true]
  rw[Kdf h1 h2];rfl
 ·unfold Kwt
  rw[show((1:Int)==1)=true from rfl]
  simp only[cond_true]
  rw[Kdf h1 h2];rfl
theorem Kcx(k:Nat){n:Int}(w:Str)(v:Int×Int×Int×Int)(h1:0≤n)(h2:n≤1) :
  Kwa k ⟨3,n,w,v⟩=some (if n=1 then[116,114,117,101] else[102,97,108,115,101])∧Kwt k ⟨3,n,w,v⟩=some (if n=1 then[116,114,117,101] else[102,97,108,115,101]):=by
 obtain rfl | rfl:n=0∨n=1:=by omega
 ·exact⟨rfl,rfl⟩
 ·exact⟨rfl,rfl⟩
theorem Kcy(k0:Nat)(hk0:10<k0)(a:Kuq)(hw:a.Words.length≤50000)(h:Kvu k0 a=some 0)(k:Nat)(hk:10<k) :
  ∃ t,Kwa k a=some t∧Kwt k a=some t∧t.length≤250:=by
 unfold Kvu at h
 rw[Kag a.Words hw,verP k0 hk0 a] at h
 simp only[Kvi,bi_some] at h
 obtain⟨K,n,w,a0,b0,c0,d0⟩:=a
 simp only at h hw
 by_cases hr:1≤K∧K≤4
 ·rw[show(decide (K<1)||decide (K>4))=false by simp;omega,cond_false] at h
  obtain rfl | rfl | rfl | rfl:K=1∨K=2∨K=3∨K=4:=by omega
  ·by_cases hn : -100000000≤n∧n≤100000000
   ·obtain⟨p,r⟩:=Kcw k (n:=n) w (a0,b0,c0,d0) (by omega) (by omega)
    refine⟨_,p,r,?_⟩
    by_cases h0:0≤n
    ·have:=(Kcu h0 (by omega)).1;omega
    ·obtain⟨u,hu,hu1⟩:∃ u:Nat,n=-(u:Int)∧1≤u:=⟨(-n).toNat,by omega,by omega⟩
     rw[hu,Kdd u hu1,List.length_cons]
     have:=Kcs 8 u (by omega)
     omega
   ·have:(decide (n < -100000000)||decide (n>100000000))=true:=by simp;omega
    rw[this] at h
    cases h
  ·refine⟨_,(Kcr k n w (a0,b0,c0,d0) (by omega)).1,(Kcr k n w (a0,b0,c0,d0) (by omega)).2,?_⟩
   have hl:w.length≤100:=by
    by_cases hl:w.length≤100
    ·exact hl
    ·exfalso
     rw[dF hl,Bool.and_false] at h
     revert h
     cases ((n:Int) != 0)<;>intro h<;>cases h
   have:=(Kcp w).2
   simp;omega
  ·by_cases hn:0≤n∧n≤1
   ·obtain⟨p,r⟩:=Kcx k (n:=n) w (a0,b0,c0,d0) hn.1 hn.2
    refine⟨_,p,r,?_⟩
    split<;>simp
   ·have:(decide (n<0)||decide (n>1))=true:=by simp;omega
    rw[this] at h
    cases h
  ·by_cases hv:((vL ⟨4,n,w,(a0,b0,c0,d0)⟩).any fun x=>decide (x<0)||decide (x>1000000))=true
   ·exfalso
    revert h
    rw[show((4:Int)==4)=true from rfl]
    simp only[cond_true]
    rw[if_pos hv]
    cases ((n:Int) != 0)<;>cases ((w:Str)==[])<;>intro h<;>cases h
   ·unfold vL at hv
    simp at hv
    obtain⟨p,r,hl⟩:=Kcv k hk n w a0 b0 c0 d0 (by omega) (by omega) (by omega) (by omega)
    exact⟨_,p,r,by simp;omega⟩
 ·have:(decide (K<1)||decide (K>4))=true:=by simp;omega
  rw[this] at h
  cases h
end Go.Gk
