import Derived.Test.YtfnjahjbpaoepaaGreatDoorINum
set_option linter.all false
set_option maxRecDepth 100000
namespace Go.Gk
theorem Ksq(c:UInt8):∀ l:List Str,(Lib.join l [c]).length≤(l.map fun x=>x.length+1).sum
 | []=>by rw[Lib.join_nil];simp
 | x :: r=>by
  have key:∀ r:List Str,(Lib.joinTail [c] r).length=(r.map fun x=>x.length+1).sum:=by
   intro r
   induction r with
   | nil=>rfl
   | cons y r ih=>simp[Lib.joinTail] at ih ⊢;omega
  rw[Lib.join_cons,List.length_append,key r]
  simp
theorem Ksr{l:List Str}{m:Nat}(h:∀ x∈l,x.length≤m):(l.map fun x=>x.length+1).sum≤l.length * (m+1):=by
 induction l with
 | nil=>simp
 | cons x r ih=>
  have h1:=h x (by simp)
  have h2:=ih fun y hy=>h y (by simp[hy])
  simp only[List.map_cons,List.sum_cons,List.length_cons,Nat.add_mul,Nat.one_mul]
  omega
theorem Kss(c:UInt8){l:List Str}{m:Nat}(hl:l.length≤1000)(hm:m≤10000)(h:∀ x∈l,x.length≤m):Kto l [c]=some (Lib.join l [c])∧(Lib.join l [c]).length≤l.length * (m+1):=by
 have h1:=Ksq c l
 have h2:=Ksr h
 have h3:l.length * (m+1)≤1000 * 10001:=Nat.mul_le_mul hl (by omega)
 refine⟨?_,by omega⟩
 unfold Kto
 rw[Nat.ble_eq_true_of_le (show l.length≤4294967296 by omega),Nat.ble_eq_true_of_le (show(Lib.join l [c]).length≤1099511627776 by omega)]
 rfl
theorem Kst{a b:Str}(h:a.length+b.length≤9223372036854775807):catZ a b=some (a++b):=by unfold catZ;rw[Nat.ble_eq_true_of_le h];rfl
theorem dig3{x:Int}(h0:0≤x)(h1:x<18446744073709551616)(j:Nat)(hj:j<4):∃ y,shrZ .u64 x ((16 * j:Nat):Int)=some y∧bitsV .and .u64 y 65535=((x.toNat / 2 ^ (16 * j) % 65536:Nat):Int):=by
 obtain⟨n,rfl⟩:=Int.eq_ofNat_of_zero_le h0
 refine⟨_,Kxm n (16 * j) (by omega),?_⟩
 have hle:n / 2 ^ (16 * j)≤n:=Nat.div_le_self _ _
 rw[show(65535:Int)=((65535:Nat):Int) from rfl,Kxl (by omega) (by decide),show(65535:Nat)=2 ^ 16 - 1 from rfl,Nat.and_two_pow_sub_one_eq_mod]
 simp
abbrev gD(a:Kzo)(j:Nat):Int:=(dg (nm a) j:Int)
theorem Ksu{a:Kzo}(h:AOk a):Lbc 4000 a=some (gD a 7,gD a 6,gD a 5,gD a 4,gD a 3,gD a 2,gD a 1,gD a 0):=by
 obtain⟨h3,eh3,vh3⟩:=dig3 h.h0 h.h1 3 (by decide)
 obtain⟨h2,eh2,vh2⟩:=dig3 h.h0 h.h1 2 (by decide)
 obtain⟨h1,eh1,vh1⟩:=dig3 h.h0 h.h1 1 (by decide)
 obtain⟨h0,eh0,vh0⟩:=dig3 h.h0 h.h1 0 (by decide)
 obtain⟨l3,el3,vl3⟩:=dig3 h.l0 h.l1 3 (by decide)
 obtain⟨l2,el2,vl2⟩:=dig3 h.l0 h.l1 2 (by decide)
 obtain⟨l1,el1,vl1⟩:=dig3 h.l0 h.l1 1 (by decide)
 obtain⟨l0,el0,vl0⟩:=dig3 h.l0 h.l1 0 (by decide)
 rw[←Kwq h 3 (by decide)] at vh3
 rw[←Kwq h 2 (by decide)] at vh2
 rw[←Kwq h 1 (by decide)] at vh1
 rw[←Kwq h 0 (by decide)] at vh0
 rw[←Kwp h 3 (by decide)] at vl3
 rw[←Kwp h 2 (by decide)] at vl2
 rw[←Kwp h 1 (by decide)] at vl1
 rw[←Kwp h 0 (by decide)] at vl0
 have w0:wi (48 - (wi (16 * 0)))=((16 * 3:Nat):Int):=by decide
 have w1:wi (48 - (wi (16 * 1)))=((16 * 2:Nat):Int):=by decide
 have w2:wi (48 - (wi (16 * 2)))=((16 * 1:Nat):Int):=by decide
 have w3:wi (48 - (wi (16 * 3)))=((16 * 0:Nat):Int):=by decide
 unfold Lbc
 refine Kwi ((bitsV .and .u64 h3 65535,0,0,0,bitsV .and .u64 l3 65535,0,0,0),1) (by dsimp only;rw[w0,eh3,el3];rfl) ?_
 refine Kwi ((bitsV .and .u64 h3 65535,bitsV .and .u64 h2 65535,0,0,bitsV .and .u64 l3 65535,bitsV .and .u64 l2 65535,0,0),2) (by dsimp only;rw[w1,eh2,el2];rfl) ?_
 refine Kwi ((bitsV .and .u64 h3 65535,bitsV .and .u64 h2 65535,bitsV .and .u64 h1 65535,0,bitsV .and .u64 l3 65535,bitsV .and .u64 l2 65535,bitsV .and .u64 l1 65535,0),3) (by dsimp only;rw[w2,eh1,el1];rfl) ?_
 refine Kwi ((bitsV .and .u64 h3 65535,bitsV .and .u64 h2 65535,bitsV .and .u64 h1 65535,bitsV .and .u64 h0 65535,bitsV .and .u64 l3 65535,bitsV .and .u64 l2 65535,bitsV .and .u64 l1 65535,bitsV .and .u64 l0 65535),4) (by dsimp only;rw[w3,eh0,el0];rfl) ?_
 refine Kwj _ rfl ?_
 dsimp only
 rw[vh3,vh2,vh1,vh0,vl3,vl2,vl1,vl0]
theorem Ksv{a:Kzo}(h:AOk a):Lbv 4000 a=some [gD a 7,gD a 6,gD a 5,gD a 4,gD a 3,gD a 2,gD a 1,gD a 0]:=by
 unfold Lbv
 rw[Kwu h 4000 (by decide)]
 rfl
def ofind(p:Nat→Nat→Bool):Nat→Option (Nat×Nat)
 | 0=>none
 | 1=>none
 | n+2=>match (List.range' 0 (9 - (n+2))).find? (fun j=>p j (n+2)) with
  | some j=>some (j,n+2)
  | none=>ofind p (n+1)
def allZ(z:List Bool)(j n:Nat):Bool:=((z.take (j+n)).drop j).all id
def ind(b:Bool):Int:=if b then 0 else 1
theorem Ksw:∀ b0 b1 b2 b3 b4 b5 b6 b7:Bool,(match Lbd 4000 (ind b0,ind b1,ind b2,ind b3,ind b4,ind b5,ind b6,ind b7),ofind (allZ [b0,b1,b2,b3,b4,b5,b6,b7]) 8 with
  | some (f,m),some (j,n)=>decide (f=(j:Int)∧m=(n:Int)∧2≤n∧j+n≤8)
  | some (f,m),none=>decide (m<2)
  | none,_=>false)=true:=by decide +kernel
theorem Ksx(k:Nat)(x0 x1 x2 x3 x4 x5 x6 x7:Int):Lbd k (x0,x1,x2,x3,x4,x5,x6,x7)=Lbd k (ind (x0==0),ind (x1==0),ind (x2==0),ind (x3==0),ind (x4==0),ind (x5==0),ind (x6==0),ind (x7==0)):=by
 have hi:∀ x:Int,((ind (x==0):Int)==0)=(x==0):=fun x=>by cases h:(x==0)<;>rfl
 have key:∀ i:Int,bi (getZ ([x0,x1,x2,x3,x4,x5,x6,x7]:List Int) i) (fun x25=>some ((x25:Int)==0))=bi (getZ ([ind (x0==0),ind (x1==0),ind (x2==0),ind (x3==0),ind (x4==0),ind (x5==0),ind (x6==0),ind (x7==0)]:List Int) i) fun x25=>some ((x25:Int)==0):=fun i=>by
  cases i with
  | negSucc n=>rfl
  | ofNat n=>
   match n with
   | 0=>show some _=some _;rw[hi]
   | 1=>show some _=some _;rw[hi]
   | 2=>show some _=some _;rw[hi]
   | 3=>show some _=some _;rw[hi]
   | 4=>show some _=some _;rw[hi]
   | 5=>show some _=some _;rw[hi]
   | 6=>show some _=some _;rw[hi]
   | 7=>show some _=some _;rw[hi]
   | n+8=>rfl
 unfold Lbd
 simp only[key]
end Go.Gk
