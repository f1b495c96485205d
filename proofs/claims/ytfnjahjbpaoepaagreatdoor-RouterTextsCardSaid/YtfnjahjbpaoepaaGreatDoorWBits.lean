import Derived.Test.YtfnjahjbpaoepaaGreatDoorTDraw
set_option linter.all false
set_option maxRecDepth 100000
namespace Go.Gk
def nsub(x y:Nat):Nat:=x ^^^ (x&&& y)
theorem Kxa(x y k:Nat):(nsub x y).testBit k=(x.testBit k&&!y.testBit k):=by
 unfold nsub
 rw[Nat.testBit_xor,Nat.testBit_and]
 cases x.testBit k<;>cases y.testBit k<;>rfl
theorem Kxb{x n:Nat}(h:∀ k,n≤k→x.testBit k=false):x<2 ^ n:=Nat.lt_pow_two_of_testBit x h
theorem Kxc{x n k:Nat}(h:x<2 ^ n)(hk:n≤k):x.testBit k=false:=Nat.testBit_lt_two_pow (nLl h (Nat.pow_le_pow_right (by decide) hk))
theorem Kxd{n:Nat}(h:n<18446744073709551616):IntKind.u64.wrap (n:Int)=n:=by
 show(n:Int) % (2 ^ 64:Int)=n
 omega
theorem Kxe{n:Nat}(h:n<9223372036854775808):IntKind.i64.wrap (n:Int)=n:=Kvu (by omega) (by omega)
theorem Kxf(x y:Nat):(BitVec.ofInt 64 (x:Int)&&& ~~~BitVec.ofInt 64 (y:Int)).toNat=nsub (x % 2 ^ 64) (y % 2 ^ 64):=by
 refine Nat.eq_of_testBit_eq fun k=>?_
 rw[BitVec.testBit_toNat,Kxa,BitVec.ofInt_natCast,BitVec.ofInt_natCast]
 simp only[BitVec.getLsbD_and,BitVec.getLsbD_not,BitVec.getLsbD_ofNat,Nat.testBit_mod_two_pow]
 by_cases hk:k<64
 ·simp[hk]
 simp[hk]
theorem Kxg(x y:Nat):(BitVec.ofInt 64 (x:Int)&&& BitVec.ofInt 64 (y:Int)).toNat=(x % 2 ^ 64)&&& (y % 2 ^ 64):=by
 rw[BitVec.ofInt_natCast,BitVec.ofInt_natCast,BitVec.toNat_and,BitVec.toNat_ofNat,BitVec.toNat_ofNat]
theorem Kxh(x y:Nat):(BitVec.ofInt 64 (x:Int)||| BitVec.ofInt 64 (y:Int)).toNat=(x % 2 ^ 64)||| (y % 2 ^ 64):=by
 rw[BitVec.ofInt_natCast,BitVec.ofInt_natCast,BitVec.toNat_or,BitVec.toNat_ofNat,BitVec.toNat_ofNat]
theorem Kxi(x y:Nat){n:Nat}(h:x<2 ^ n):nsub x y<2 ^ n:=Kxb fun k hk=>by rw[Kxa,Kxc h hk];rfl
theorem Kxj{x y:Nat}(hx:x<2 ^ 64)(hy:y<2 ^ 64):bitsV .andNot .u64 (x:Int) (y:Int)=(nsub x y:Nat):=by
 show IntKind.u64.wrap ((BitVec.ofInt 64 (x:Int)&&& ~~~BitVec.ofInt 64 (y:Int)).toNat:Int)=_
 rw[Kxf,Nat.mod_eq_of_lt hx,Nat.mod_eq_of_lt hy]
 exact Kxd (Kxi x y hx)
theorem Kxk{x y:Nat}(hx:x<2 ^ 16)(hy:y<2 ^ 16):bitsV .andNot .i64 (x:Int) (y:Int)=(nsub x y:Nat):=by
 show IntKind.i64.wrap ((BitVec.ofInt 64 (x:Int)&&& ~~~BitVec.ofInt 64 (y:Int)).toNat:Int)=_
 rw[Kxf,Nat.mod_eq_of_lt (by omega),Nat.mod_eq_of_lt (by omega)]
 exact Kxe (nLl (Kxi x y hx) (by decide))
theorem or_u{x y:Nat}(hx:x<2 ^ 64)(hy:y<2 ^ 64):bitsV .or .u64 (x:Int) (y:Int)=(x||| y:Nat):=by
 show IntKind.u64.wrap ((BitVec.ofInt 64 (x:Int)||| BitVec.ofInt 64 (y:Int)).toNat:Int)=_
 rw[Kxh,Nat.mod_eq_of_lt hx,Nat.mod_eq_of_lt hy]
 exact Kxd (Nat.or_lt_two_pow hx hy)
theorem Kxl{x y:Nat}(hx:x<2 ^ 64)(hy:y<2 ^ 64):bitsV .and .u64 (x:Int) (y:Int)=(x&&& y:Nat):=by
 show IntKind.u64.wrap ((BitVec.ofInt 64 (x:Int)&&& BitVec.ofInt 64 (y:Int)).toNat:Int)=_
 rw[Kxg,Nat.mod_eq_of_lt hx,Nat.mod_eq_of_lt hy]
 exact Kxd (Nat.lt_of_le_of_lt Nat.and_le_left hx)
theorem Kxm(x n:Nat)(hn:n≤64):shrZ .u64 (x:Int) (n:Int)=some ((x / 2 ^ n:Nat):Int):=by
 show some (Int.fdiv (x:Int) (2 ^ min n 64))=_
 rw[Nat.min_eq_left hn,Int.fdiv_eq_ediv_of_nonneg _ (Int.le_of_lt (Int.pow_pos (by decide)))]
 congr 1
theorem Kxn(x n:Nat)(hn:n≤64)(h:x * 2 ^ n<2 ^ 64):shlZ .u64 (x:Int) (n:Int)=some ((x * 2 ^ n:Nat):Int):=by
 show some (IntKind.u64.wrap ((x:Int) * 2 ^ min n 64))=_
 rw[Nat.min_eq_left hn,show(x:Int) * 2 ^ n=((x * 2 ^ n:Nat):Int) by rw[Int.natCast_mul,Int.natCast_pow];rfl,Kxd h]
theorem Kxo(n:Nat)(hn:n<16):shlZ .i64 1 (n:Int)=some ((2 ^ n:Nat):Int):=by
 show some (IntKind.i64.wrap ((1:Int) * 2 ^ min n 64))=_
 have h2:2 ^ n<2 ^ 16:=Nat.pow_lt_pow_right (by decide) hn
 rw[Nat.min_eq_left (by omega),show(1:Int) * 2 ^ n=((2 ^ n:Nat):Int) by rw[Int.one_mul,Int.natCast_pow];rfl,Kxe (by omega)]
def dg(n j:Nat):Nat:=n / 2 ^ (16 * j) % 2 ^ 16
theorem Kxp(n j k:Nat):(dg n j).testBit k=(decide (k<16)&&n.testBit (16 * j+k)):=by
 unfold dg
 rw[Nat.testBit_mod_two_pow,Nat.testBit_div_two_pow,Nat.add_comm]
theorem Kxq(n j:Nat):dg n j<2 ^ 16:=Nat.mod_lt _ (by decide)
def cl(n i:Nat):Nat:=n / 2 ^ i * 2 ^ i
theorem Kxr(n i k:Nat):(cl n i).testBit k=(decide (i≤k)&&n.testBit k):=by
 unfold cl
 rw[Nat.mul_comm,Nat.testBit_two_pow_mul,Nat.testBit_div_two_pow]
 by_cases h:i≤k
 ·simp only[h,decide_true,Bool.true_and];rw[show k - i+i=k by omega]
 simp[h]
def fl(n i:Nat):Nat:=n||| (2 ^ i - 1)
theorem Kxs(b k:Nat):(2 ^ b).testBit k=decide (b=k):=Nat.testBit_two_pow
theorem Kxt(n i:Nat):dg (cl n (i+1)) (i / 16)=nsub (dg (cl n i) (i / 16)) (2 ^ (i % 16)):=by
 refine Nat.eq_of_testBit_eq fun k=>?_
 rw[Kxp,Kxr,Kxa,Kxp,Kxr,Kxs]
 have:=Nat.div_add_mod i 16
 by_cases hk:k<16
 ·by_cases he:i % 16=k
  ·have h1:¬ i+1≤16 * (i / 16)+k:=by omega
   simp[hk,he,h1]
  by_cases h1:i+1≤16 * (i / 16)+k
  ·simp[hk,he,h1,show i≤16 * (i / 16)+k by omega]
  simp[hk,he,h1,show ¬ i≤16 * (i / 16)+k by omega]
 simp[hk]
theorem Kxu(n i j:Nat)(h:j≠i / 16):dg (cl n (i+1)) j=dg (cl n i) j:=by
 refine Nat.eq_of_testBit_eq fun k=>?_
 rw[Kxp,Kxr,Kxp,Kxr]
 by_cases hk:k<16
 ·by_cases h1:i+1≤16 * j+k
  ·simp[hk,h1,show i≤16 * j+k by omega]
  simp[hk,h1,show ¬ i≤16 * j+k by omega]
 simp[hk]
end Go.Gk
