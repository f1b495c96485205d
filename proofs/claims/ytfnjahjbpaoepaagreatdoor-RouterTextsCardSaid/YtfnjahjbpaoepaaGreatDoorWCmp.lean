import Derived.Test.YtfnjahjbpaoepaaGreatDoorWAddr
set_option linter.all false
set_option maxRecDepth 100000
namespace Go.Gk
theorem Kxv{a:Kzo}(h:AOk a)(k:Nat):(nm a).testBit k=if k<64 then a.Lo.toNat.testBit k else a.Hi.toNat.testBit (k - 64):=by
 have:=h.l1;have:=h.l0
 unfold nm
 rw[Nat.mul_comm,Nat.testBit_two_pow_mul_add _ (by omega)]
def adr(f:Bool)(n:Nat):Kzo:=⟨f,((n / 2 ^ 64:Nat):Int),((n % 2 ^ 64:Nat):Int)⟩
theorem Kxw{a:Kzo}(h:AOk a):adr a.Six (nm a)=a:=by
 have:=h.l1;have:=h.l0;have:=h.h0
 unfold adr nm
 cases a with
 | mk s hi lo=>
  simp only at *
  congr 1<;>omega
theorem Kxx(f:Bool)(n:Nat):nm (adr f n)=n:=by
 unfold nm adr
 simp only[Int.toNat_natCast]
 omega
theorem Kxy(f:Bool){n:Nat}(h:n<2 ^ 128):AOk (adr f n):=by
 unfold adr
 exact⟨by simp only;omega,by simp only;omega,by simp only;omega,by simp only;omega⟩
theorem Kxz{a:Kzo}(h:AOk a){f:Bool}{n:Nat}:(adr f n=a) ↔ (f=a.Six∧n=nm a):=by
 constructor
 ·rintro rfl;exact⟨rfl,(Kxx f n).symm⟩
 rintro⟨rfl,rfl⟩;exact Kxw h
theorem Kya(a b:Kzo):((a.Six==b.Six)&&((a.Hi==b.Hi)&&((a.Lo==b.Lo)&&true)))=decide (a=b):=by
 cases a;cases b
 rw[Bool.eq_iff_iff]
 simp
theorem Kyb(m:Nat)(hm:m≤128):Lao (m:Int)=some (((2 ^ (m - 64) - 1:Nat):Int),((2 ^ (min m 64) - 1:Nat):Int)):=by
 unfold Lao
 by_cases h1:128≤m
 ·obtain rfl:m=128:=by omega
  rfl
 rw[dF (show ¬ (m:Int)≥128 by omega)]
 by_cases h2:64<m
 ·rw[dT (show(m:Int)>64 by omega)]
  have hw:wi ((m:Int) - 64)=((m - 64:Nat):Int):=by rw[Kvu (by omega) (by omega)];omega
  have hp:2 ^ (m - 64)<2 ^ 64:=Nat.pow_lt_pow_right (by decide) (by omega)
  have hp0:0<2 ^ (m - 64):=Nat.pow_pos (by decide)
  simp only[cond_false,cond_true]
  rw[hw,show(1:Int)=((1:Nat):Int) from rfl,Kxn 1 (m - 64) (by omega) (by omega)]
  simp only[bi_some]
  rw[Nat.min_eq_right (by omega),show((1 * 2 ^ (m - 64):Nat):Int) - ((1:Nat):Int)=((2 ^ (m - 64) - 1:Nat):Int) by rw[Nat.one_mul];omega,Kxd (by omega)]
  rfl
 rw[dF (show ¬ (m:Int)>64 by omega)]
 simp only[cond_false]
 by_cases h3:m=64
 ·subst h3;rfl
 rw[beq_eq_false_iff_ne.2 (show(m:Int)≠64 by omega)]
 have hp:2 ^ m<2 ^ 64:=Nat.pow_lt_pow_right (by decide) (by omega)
 have hp0:0<2 ^ m:=Nat.pow_pos (by decide)
 simp only[cond_false]
 rw[show(1:Int)=((1:Nat):Int) from rfl,Kxn 1 m (by omega) (by omega)]
 simp only[bi_some]
 rw[Nat.min_eq_left (by omega),show((1 * 2 ^ m:Nat):Int) - ((1:Nat):Int)=((2 ^ m - 1:Nat):Int) by rw[Nat.one_mul];omega,Kxd (by omega),show m - 64=0 by omega]
 rfl
theorem Kyc(a:Kzo):Lam a=some (if a.Six then 128 else 32):=by unfold Lam;cases a.Six<;>rfl
def lnN(a:Kzo):Nat:=if a.Six then 128 else 32
theorem Kyd(a:Kzo):(if a.Six then(128:Int) else 32)=(lnN a:Int):=by unfold lnN;cases a.Six<;>rfl
theorem Kye(a:Kzo):lnN a≤128:=by unfold lnN;cases a.Six<;>decide
theorem Kyf{a:Kzo}(h:AOk a)(n:Int)(h0:0≤n)(h1:n≤lnN a):Lap a n=some (adr a.Six (cl (nm a) ((lnN a:Int) - n).toNat)):=by
 have hl:=Kye a
 unfold Lap
 rw[Kyc,Kyd]
 simp only[bi_some]
 generalize hm:((lnN a:Int) - n).toNat=m
 have hw:wi ((lnN a:Int) - n)=(m:Int):=by rw[Kvu (by omega) (by omega)];omega
 rw[hw,Kyb m (by omega)]
 simp only[bi_some]
 have a1:=h.h0;have a2:=h.h1;have a3:=h.l0;have a4:=h.l1
 have b1:2 ^ (m - 64) - 1<2 ^ 64:=by
  have:2 ^ (m - 64)≤2 ^ 64:=Nat.pow_le_pow_right (by decide) (by omega)
  omega
 have b2:2 ^ (min m 64) - 1<2 ^ 64:=by
  have:2 ^ (min m 64)≤2 ^ 64:=Nat.pow_le_pow_right (by decide) (by omega)
  omega
 have e1:bitsV .andNot .u64 a.Hi ((2 ^ (m - 64) - 1:Nat):Int)=((nsub a.Hi.toNat (2 ^ (m - 64) - 1):Nat):Int):=by
  rw[←Kxj (by omega) b1,Int.toNat_of_nonneg a1]
 have e2:bitsV .andNot .u64 a.Lo ((2 ^ (min m 64) - 1:Nat):Int)=((nsub a.Lo.toNat (2 ^ (min m 64) - 1):Nat):Int):=by
  rw[←Kxj (by omega) b2,Int.toNat_of_nonneg a3]
 rw[e1,e2]
 unfold adr
 have k1:nsub a.Hi.toNat (2 ^ (m - 64) - 1)=cl (nm a) m / 2 ^ 64:=by
  refine Nat.eq_of_testBit_eq fun k=>?_
  rw[Kxa,Nat.testBit_two_pow_sub_one,Nat.testBit_div_two_pow,Kxr,Kxv h,if_neg (by omega),show k+64 - 64=k by omega]
  by_cases hk:k<m - 64
  ·simp[hk,show ¬ m≤k+64 by omega]
  simp[hk,show m≤k+64 by omega]
 have k2:nsub a.Lo.toNat (2 ^ (min m 64) - 1)=cl (nm a) m % 2 ^ 64:=by
  refine Nat.eq_of_testBit_eq fun k=>?_
  rw[Kxa,Nat.testBit_two_pow_sub_one,Nat.testBit_mod_two_pow,Kxr,Kxv h]
  by_cases h64:k<64
  ·rw[if_pos h64]
   by_cases hk:k<min m 64
   ·simp[hk,h64,show ¬ m≤k by omega]
   simp[hk,h64,show m≤k by omega]
  have:=Kxc (x:=a.Lo.toNat) (n:=64) (k:=k) (by omega) (by omega)
  simp[h64,this]
 rw[k1,k2]
theorem Kyg(n m:Nat):cl n m≤n:=by unfold cl;exact Nat.div_mul_le_self _ _
theorem Kyh(k:Nat)(hk:5≤k){n:Nat}(hn:n<2 ^ 128)(f:Bool):Lad k (w9 n f)=some (adr f n):=by
 unfold Lad
 refine Kwe (fun s:Kzo×Int=>∃ i:Nat,i≤4∧s=(⟨false,((n / 2 ^ 64 % 2 ^ (16 * i):Nat):Int),((n % 2 ^ (16 * i):Nat):Int)⟩,(i:Int))) (fun s=>(4 - s.2).toNat) (fun r=>r=(⟨false,((n / 2 ^ 64 % 2 ^ 64:Nat):Int),((n % 2 ^ 64:Nat):Int)⟩:Kzo)) ?_ ⟨0,by decide,by simp[Nat.mod_one]⟩ (show(4 - 0:Int).toNat<k by omega) ?_
 ·rintro s ⟨i,hi,rfl⟩
  by_cases h4:i=4
  ·subst h4;exact .inl ⟨_,rfl,rfl⟩
  right
  have hi4:i<4:=by omega
  have hw:wi (4+(i:Int))=((4+i:Nat):Int):=by rw[Kvu (by omega) (by omega)];omega
  have hw2:wi ((i:Int)+1)=((i+1:Nat):Int):=by rw[Kvu (by omega) (by omega)];omega
  have hw3:wi (16 * (i:Int))=((16 * i:Nat):Int):=by rw[Kvu (by omega) (by omega)];omega
  have key:∀ x j:Nat,(x % 2 ^ (16 * i))||| (dg x i * 2 ^ (16 * i))=x % 2 ^ (16 * (i+1)):=fun x j=>by
   refine Nat.eq_of_testBit_eq fun k=>?_
   rw[Nat.testBit_or,Nat.testBit_mod_two_pow,Nat.mul_comm (dg x i),Nat.testBit_two_pow_mul,Kxp,Nat.testBit_mod_two_pow]
   by_cases h1:k<16 * i
   ·simp[h1,show ¬ 16 * i≤k by omega,show k<16 * (i+1) by omega]
   by_cases h2:k<16 * (i+1)
   ·simp[h1,h2,show 16 * i≤k by omega,show k - 16 * i<16 by omega,show 16 * i+(k - 16 * i)=k by omega]
   simp[h1,h2,show ¬ k - 16 * i<16 by omega]
  have hb:∀ j,dg n j * 2 ^ (16 * i)<2 ^ 64:=fun j=>by
   have h1:=Kxq n j
   have h2:2 ^ (16 * i)≤2 ^ 48:=Nat.pow_le_pow_right (by decide) (by omega)
   calc dg n j * 2 ^ (16 * i)≤dg n j * 2 ^ 48:=Nat.mul_le_mul_left _ h2
    _<2 ^ 16 * 2 ^ 48:=Nat.mul_lt_mul_of_pos_right h1 (by decide)
    _=2 ^ 64:=by decide
  have hmod:∀ x,x % 2 ^ (16 * i)<2 ^ 64:=fun x=>nLl (Nat.mod_lt _ (Nat.pow_pos (by decide))) (Nat.pow_le_pow_right (by decide) (by omega))
  have hdg:dg n (4+i)=dg (n / 2 ^ 64) i:=by
   unfold dg
   rw[Nat.div_div_eq_div_mul,←Nat.pow_add,show 64+16 * i=16 * (4+i) by omega]
  refine⟨(⟨false,((n / 2 ^ 64 % 2 ^ (16 * (i+1)):Nat):Int),((n % 2 ^ (16 * (i+1)):Nat):Int)⟩,((i+1:Nat):Int)),?_,⟨i+1,by omega,rfl⟩,?_⟩
  ·simp only
   rw[dT (show(i:Int)<4 by omega)]
   have u1:IntKind.u64.wrap ((dg n i:Nat):Int)=(dg n i:Nat):=Kxd (nLl (Kxq n i) (by decide))
   have u2:IntKind.u64.wrap ((dg n (4+i):Nat):Int)=(dg n (4+i):Nat):=Kxd (nLl (Kxq n _) (by decide))
   simp only[cond_true,hw,hw2,hw3,Kww n f i (by omega),Kww n f (4+i) (by omega),bi_some,u1,u2,Kxn _ (16 * i) (by omega) (hb i),Kxn _ (16 * i) (by omega) (hb (4+i)),or_u (hmod _) (hb _)]
   rw[key n 0,hdg,key (n / 2 ^ 64) 0]
  show(4 - ((i+1:Nat):Int)).toNat<(4 - (i:Int)).toNat
  omega
 rintro r rfl
 have:n / 2 ^ 64 % 2 ^ 64=n / 2 ^ 64:=Nat.mod_eq_of_lt (by omega)
 rw[this]
 unfold adr w9
 cases f<;>rfl
def cmpN(n m:Nat):Int:=if n<m then -1 else if m<n then 1 else 0
def cmpA(a b:Kzo):Int:=if a.Six=b.Six then cmpN (nm a) (nm b) else if b.Six then -1 else 1
theorem Kyi(x:Int):Lbq x=some (if x<0 then -1 else if x>0 then 1 else 0):=by
 unfold Lbq
 by_cases h1:x<0
 ·simp[h1]
 by_cases h2:x>0
 ·simp[h1,h2]
 simp[h1,h2]
def cmpW(n m:Nat)(f g:Bool):Int:=if f=g then cmpN n m else if g then -1 else 1
theorem Kyj(k:Nat)(hk:10≤k){n m:Nat}(hn:n<2 ^ 128)(hm:m<2 ^ 128)(f g:Bool):Lbr k (w9 n f) (w9 m g)=some (cmpW n m f g):=by
 unfold Lbr
 have g8:∀ n f,getZ ([(w9 n f).1,(w9 n f).2.1,(w9 n f).2.2.1,(w9 n f).2.2.2.1,(w9 n f).2.2.2.2.1,(w9 n f).2.2.2.2.2.1,(w9 n f).2.2.2.2.2.2.1,(w9 n f).2.2.2.2.2.2.2.1,(w9 n f).2.2.2.2.2.2.2.2]:List Int) 8=some (if f then 1 else 0):=fun n f=>rfl
 refine Kwe (fun s:Int=>∃ i:Nat,i≤9∧s=(i:Int) - 1∧(i<9→f=g∧n / 2 ^ (16 * i)=m / 2 ^ (16 * i))) (fun s=>(s+1).toNat) (fun r=>(r=.inl ()∧cmpW n m f g=0)∨r=.inr (cmpW n m f g)) ?_ ⟨9,Nat.le_refl _,rfl,fun h=>absurd h (by decide)⟩ (show(8+1:Int).toNat<k by omega) ?_
 ·rintro s ⟨i,hi,rfl,hI⟩
  by_cases h0:i=0
  ·subst h0
   obtain⟨rfl,e⟩:=hI (by decide)
   simp only[Nat.mul_zero,Nat.pow_zero,Nat.div_one] at e
   subst e
   refine .inl ⟨.inl (),rfl,.inl ⟨rfl,?_⟩⟩
   unfold cmpW cmpN;simp
  rw[dT (show(i:Int) - 1≥0 by omega)]
  simp only[cond_true]
  by_cases h9:i=9
  ·subst h9
   rw[show((9:Nat):Int) - 1=8 from rfl]
   simp only[g8,bi_some]
   cases f<;>cases g
   ·right;exact⟨7,rfl,⟨8,by decide,rfl,fun _=>by rw[Nat.div_eq_of_lt hn,Nat.div_eq_of_lt hm];simp⟩,by decide⟩
   ·left;exact⟨.inr (-1),rfl,.inr rfl⟩
   ·left;exact⟨.inr 1,rfl,.inr rfl⟩
   right;exact⟨7,rfl,⟨8,by decide,rfl,fun _=>by rw[Nat.div_eq_of_lt hn,Nat.div_eq_of_lt hm];simp⟩,by decide⟩
  obtain⟨j,rfl⟩:∃ j,i=j+1:=⟨i - 1,by omega⟩
  obtain⟨rfl,e⟩:=hI (by omega)
  have hc:((j+1:Nat):Int) - 1=(j:Int):=by omega
  rw[hc]
  simp only[Kww _ _ j (show j<8 by omega),bi_some]
  have d1:n / 2 ^ (16 * j)=n / 2 ^ (16 * (j+1)) * 2 ^ 16+dg n j:=by
   unfold dg
   rw[show 16 * (j+1)=16 * j+16 by omega,Nat.pow_add,←Nat.div_div_eq_div_mul]
   omega
  have d2:m / 2 ^ (16 * j)=m / 2 ^ (16 * (j+1)) * 2 ^ 16+dg m j:=by
   unfold dg
   rw[show 16 * (j+1)=16 * j+16 by omega,Nat.pow_add,←Nat.div_div_eq_div_mul]
   omega
  have b1:=Kxq n j
  have b2:=Kxq m j
  by_cases hq:dg n j=dg m j
  ·right
   rw[hq]
   refine⟨(j:Int) - 1,?_,⟨j,by omega,rfl,fun _=>by rw[d1,d2,e,hq];simp⟩,by omega⟩
   simp only[bne_self_eq_false,cond_false]
   rw[Kvu (by omega) (by omega)]
  left
  rw[bne_iff_ne.2 (show(dg n j:Int)≠(dg m j:Int) by omega)]
  simp only[cond_true,Kyi,bi_some]
  refine⟨_,rfl,.inr ?_⟩
  rw[Kvu (by omega) (by omega)]
  unfold cmpW cmpN
  rw[if_pos rfl]
  by_cases hlt:dg n j<dg m j
  ·have:n<m:=by
    apply Classical.byContradiction
    intro hc
    have:=Nat.div_le_div_right (c:=2 ^ (16 * j)) (show m≤n by omega)
    omega
   rw[if_pos this,if_pos (by omega)]
  have:m<n:=by
   apply Classical.byContradiction
   intro hc
   have:=Nat.div_le_div_right (c:=2 ^ (16 * j)) (show n≤m by omega)
   omega
  rw[if_neg (show ¬ n<m by omega),if_pos this,if_neg (show ¬ ((dg n j:Int) - (dg m j:Int)<0) by omega),if_pos (show(dg n j:Int) - (dg m j:Int)>0 by omega)]
 rintro r (⟨rfl,h⟩ | rfl)
 ·rw[h];rfl
 rfl
theorem Kyk{a b:Kzo}(ha:AOk a)(hb:AOk b)(k:Nat)(hk:10≤k):Lbs k a b=some (cmpA a b):=by
 unfold Lbs
 rw[Kwu ha k (by omega),Kwu hb k (by omega)]
 simp only[bi_some]
 rw[Kyj k hk (Kwo ha) (Kwo hb)]
 rfl
end Go.Gk
