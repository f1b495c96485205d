import Derived.Test.YtfnjahjbpaoepaaGreatDoorWBits
set_option linter.all false
set_option maxRecDepth 100000
namespace Go.Gk
structure AOk(a:Kzo):Prop where
 h0:0≤a.Hi
 h1:a.Hi<18446744073709551616
 l0:0≤a.Lo
 l1:a.Lo<18446744073709551616
def nm(a:Kzo):Nat:=a.Hi.toNat * 2 ^ 64+a.Lo.toNat
abbrev W9:Type:=Int×Int×Int×Int×Int×Int×Int×Int×Int
def w9(n:Nat)(f:Bool):W9:=(dg n 0,dg n 1,dg n 2,dg n 3,dg n 4,dg n 5,dg n 6,dg n 7,if f then 1 else 0)
theorem Kwo{a:Kzo}(h:AOk a):nm a<2 ^ 128:=by
 have:=h.h1;have:=h.l1;have:=h.h0;have:=h.l0
 unfold nm;omega
theorem Kwp{a:Kzo}(h:AOk a)(j:Nat)(hj:j<4):dg (nm a) j=a.Lo.toNat / 2 ^ (16 * j) % 65536:=by
 have:=h.l1;have:=h.l0
 unfold dg nm
 rcases(show j=0∨j=1∨j=2∨j=3 by omega) with rfl | rfl | rfl | rfl<;>omega
theorem Kwq{a:Kzo}(h:AOk a)(j:Nat)(hj:j<4):dg (nm a) (4+j)=a.Hi.toNat / 2 ^ (16 * j) % 65536:=by
 have:=h.l1;have:=h.l0
 unfold dg nm
 rcases(show j=0∨j=1∨j=2∨j=3 by omega) with rfl | rfl | rfl | rfl<;>omega
theorem Kwr{x:Int}(h0:0≤x)(h1:x<18446744073709551616)(j:Nat)(hj:j<4):∃ y,shrZ .u64 x (wi (16 * (j:Int)))=some y∧wi (bitsV .and .u64 y 65535)=((x.toNat / 2 ^ (16 * j) % 65536:Nat):Int):=by
 obtain⟨n,rfl⟩:=Int.eq_ofNat_of_zero_le h0
 have hw:wi (16 * (j:Int))=((16 * j:Nat):Int):=by rw[Kvu (by omega) (by omega)];omega
 refine⟨_,by rw[hw,Kxm n (16 * j) (by omega)],?_⟩
 have hle:n / 2 ^ (16 * j)≤n:=Nat.div_le_self _ _
 rw[show(65535:Int)=((65535:Nat):Int) from rfl,Kxl (by omega) (by decide),show(65535:Nat)=2 ^ 16 - 1 from rfl,Nat.and_two_pow_sub_one_eq_mod]
 have:n / 2 ^ (16 * j) % 2 ^ 16<2 ^ 16:=Nat.mod_lt _ (by decide)
 rw[Kvu (by omega) (by omega)]
 simp
def zl(n i j:Nat):Int:=if j<i then(dg n j:Int) else 0
def zh(n i j:Nat):Int:=if j<i then(dg n (4+j):Int) else 0
theorem Kws(n i j:Nat)(hj:j<4)(v:Int):updA ((4+i:Nat):Int) j v (updA (i:Int) j (dg n i:Int) (zl n i j))=zl n (i+1) j:=by
 unfold updA zl
 rw[if_neg (by omega)]
 by_cases h:i=j
 ·subst h;rw[if_pos rfl,if_pos (by omega)]
 rw[if_neg (by omega)]
 by_cases h2:j<i
 ·rw[if_pos h2,if_pos (by omega)]
 rw[if_neg h2,if_neg (by omega)]
theorem Kwt(n i j:Nat)(hi:i<4)(hj:j<4)(v:Int):updA ((4+i:Nat):Int) (4+j) (dg n (4+i):Int) (updA (i:Int) (4+j) v (zh n i j))=zh n (i+1) j:=by
 unfold updA zh
 by_cases h:i=j
 ·subst h;rw[if_pos rfl,if_pos (by omega)]
 rw[if_neg (by omega),if_neg (by omega)]
 by_cases h2:j<i
 ·rw[if_pos h2,if_pos (by omega)]
 rw[if_neg h2,if_neg (by omega)]
abbrev W10:Type:=Int×Int×Int×Int×Int×Int×Int×Int×Int×Int
def s10(n i:Nat):W10:=(zl n i 0,zl n i 1,zl n i 2,zl n i 3,zh n i 0,zh n i 1,zh n i 2,zh n i 3,0,(i:Int))
theorem get9{l:List Int}(hl:l.length=9){k:Int}{i:Nat}(hk:k=(i:Int))(hi:i<9):∃ x,getZ l k=some x:=by
 subst hk
 exact⟨l[i],by rw[getZ_cast,gGe (by omega)]⟩
theorem Kwu{a:Kzo}(h:AOk a)(k:Nat)(hk:5≤k):Laa k a=some (w9 (nm a) a.Six):=by
 unfold Laa
 refine Kwe (fun s:W10=>∃ i,i≤4∧s=s10 (nm a) i) (fun s=>(4 - s.2.2.2.2.2.2.2.2.2).toNat) (fun r=>r=((dg (nm a) 0:Int),(dg (nm a) 1:Int),(dg (nm a) 2:Int),(dg (nm a) 3:Int),(dg (nm a) (4+0):Int),(dg (nm a) (4+1):Int),(dg (nm a) (4+2):Int),(dg (nm a) (4+3):Int),0)) ?_ ⟨0,by decide,rfl⟩ (show(4 - 0:Int).toNat<k by omega) ?_
 ·rintro s ⟨i,hi,rfl⟩
  by_cases h4:i=4
  ·subst h4;exact .inl ⟨_,rfl,rfl⟩
  right
  have hi4:i<4:=by omega
  obtain⟨y,p,q⟩:=Kwr h.l0 h.l1 i hi4
  obtain⟨z,r,t⟩:=Kwr h.h0 h.h1 i hi4
  rw[←Kwp h _ hi4] at q
  rw[←Kwq h _ hi4] at t
  have hw:wi (4+(i:Int))=((4+i:Nat):Int):=by rw[Kvu (by omega) (by omega)];omega
  have hw2:wi ((i:Int)+1)=((i+1:Nat):Int):=by rw[Kvu (by omega) (by omega)];omega
  refine⟨s10 (nm a) (i+1),?_,⟨i+1,by omega,rfl⟩,?_⟩
  ·unfold s10
   simp only
   rw[dT (show(i:Int)<4 by omega)]
   simp only[cond_true,p,r,bi_some,q,t,hw]
   obtain⟨x1,e1⟩:=get9 (l:=[zl (nm a) i 0,zl (nm a) i 1,zl (nm a) i 2,zl (nm a) i 3,zh (nm a) i 0,zh (nm a) i 1,zh (nm a) i 2,zh (nm a) i 3,0]) rfl (k:=(i:Int)) rfl (by omega)
   rw[e1]
   simp only[bi_some]
   obtain⟨x2,e2⟩:=get9 (l:=[updA (i:Int) 0 (dg (nm a) i:Int) (zl (nm a) i 0),updA (i:Int) 1 (dg (nm a) i:Int) (zl (nm a) i 1),updA (i:Int) 2 (dg (nm a) i:Int) (zl (nm a) i 2),updA (i:Int) 3 (dg (nm a) i:Int) (zl (nm a) i 3),updA (i:Int) 4 (dg (nm a) i:Int) (zh (nm a) i 0),updA (i:Int) 5 (dg (nm a) i:Int) (zh (nm a) i 1),updA (i:Int) 6 (dg (nm a) i:Int) (zh (nm a) i 2),updA (i:Int) 7 (dg (nm a) i:Int) (zh (nm a) i 3),updA (i:Int) 8 (dg (nm a) i:Int) 0]) rfl (k:=((4+i:Nat):Int)) rfl (by omega)
   rw[e2]
   simp only[bi_some,hw2,Kws (nm a) i _ (show 0<4 by decide),Kws (nm a) i _ (show 1<4 by decide),Kws (nm a) i _ (show 2<4 by decide),Kws (nm a) i _ (show 3<4 by decide)]
   rw[show updA ((4+i:Nat):Int) 4 (dg (nm a) (4+i):Int) (updA (i:Int) 4 (dg (nm a) i:Int) (zh (nm a) i 0))=zh (nm a) (i+1) 0 from Kwt (nm a) i 0 hi4 (by decide) _,
    show updA ((4+i:Nat):Int) 5 (dg (nm a) (4+i):Int) (updA (i:Int) 5 (dg (nm a) i:Int) (zh (nm a) i 1))=zh (nm a) (i+1) 1 from Kwt (nm a) i 1 hi4 (by decide) _,
    show updA ((4+i:Nat):Int) 6 (dg (nm a) (4+i):Int) (updA (i:Int) 6 (dg (nm a) i:Int) (zh (nm a) i 2))=zh (nm a) (i+1) 2 from Kwt (nm a) i 2 hi4 (by decide) _,
    show updA ((4+i:Nat):Int) 7 (dg (nm a) (4+i):Int) (updA (i:Int) 7 (dg (nm a) i:Int) (zh (nm a) i 3))=zh (nm a) (i+1) 3 from Kwt (nm a) i 3 hi4 (by decide) _,
    show updA ((4+i:Nat):Int) 8 (dg (nm a) (4+i):Int) (updA (i:Int) 8 (dg (nm a) i:Int) 0)=0 by unfold updA;rw[if_neg (by omega),if_neg (by omega)]]
  show(4 - ((i+1:Nat):Int)).toNat<(4 - (i:Int)).toNat
  omega
 rintro r rfl
 unfold w9
 cases a.Six<;>rfl
theorem Kwv(a:Kzo):Lab a=some (if a.Six then 128 else 32):=by unfold Lab;cases a.Six<;>rfl
theorem Kww(n:Nat)(f:Bool)(j:Nat)(hj:j<8):getZ ([(w9 n f).1,(w9 n f).2.1,(w9 n f).2.2.1,(w9 n f).2.2.2.1,(w9 n f).2.2.2.2.1,(w9 n f).2.2.2.2.2.1,(w9 n f).2.2.2.2.2.2.1,(w9 n f).2.2.2.2.2.2.2.1,(w9 n f).2.2.2.2.2.2.2.2]:List Int) (j:Int)=some (dg n j:Int):=by
 rcases(show j=0∨j=1∨j=2∨j=3∨j=4∨j=5∨j=6∨j=7 by omega) with rfl | rfl | rfl | rfl | rfl | rfl | rfl | rfl<;>rfl
theorem Kwx(n m i j:Nat)(v:Nat)(hs:dg m i=v)(ho:j≠i→dg m j=dg n j):updA (i:Int) j (v:Int) (dg n j:Int)=(dg m j:Int):=by
 unfold updA
 by_cases h:i=j
 ·subst h;rw[if_pos rfl,hs]
 rw[if_neg (by omega),ho (fun e=>h e.symm)]
theorem Lio(i:Nat)(hi:i<128):divZ .i64 (i:Int) 16=some ((i / 16:Nat):Int)∧remZ (i:Int) 16=some ((i % 16:Nat):Int):=by
 unfold divZ remZ
 rw[dF (show ¬ (16:Int)=0 by decide)]
 simp only[cond_false]
 rw[Int.tdiv_eq_ediv_of_nonneg (by omega),Int.tmod_eq_emod_of_nonneg (by omega),show((i:Int) / 16)=((i / 16:Nat):Int) by omega,show((i:Int) % 16)=((i % 16:Nat):Int) by omega]
 exact⟨by rw[show IntKind.i64.wrap ((i / 16:Nat):Int)=((i / 16:Nat):Int) from Kxe (by omega)],rfl⟩
theorem Kwy(n0:Nat)(f:Bool)(m:Int)(h0:0≤m)(h1:m≤128)(op:BinOp)(tr:Nat→Nat→Nat)(g:Nat→Nat→Nat)(h00:∀ j,dg (tr n0 0) j=dg n0 j)(hop:∀ x y:Nat,x<2 ^ 16→y<2 ^ 16→bitsV op .i64 (x:Int) (y:Int)=((g x y:Nat):Int))
  (hsame:∀ i,dg (tr n0 (i+1)) (i / 16)=g (dg (tr n0 i) (i / 16)) (2 ^ (i % 16))) (hother:∀ i j,j≠i / 16→dg (tr n0 (i+1)) j=dg (tr n0 i) j) :
  rangeG (σ:=W9) (fun i5 s6=>bi (divZ .i64 (i5:Int) 16) fun y17=>bi (getZ ([s6.1,s6.2.1,s6.2.2.1,s6.2.2.2.1,s6.2.2.2.2.1,s6.2.2.2.2.2.1,s6.2.2.2.2.2.2.1,s6.2.2.2.2.2.2.2.1,s6.2.2.2.2.2.2.2.2]:List Int) y17) fun x19=>bi (remZ (i5:Int) 16) fun y21=>bi (shlZ .i64 1 y21) fun y23=>bi (getZ ([s6.1,s6.2.1,s6.2.2.1,s6.2.2.2.1,s6.2.2.2.2.1,s6.2.2.2.2.2.1,s6.2.2.2.2.2.2.1,s6.2.2.2.2.2.2.2.1,s6.2.2.2.2.2.2.2.2]:List Int) y17) fun x25=>some (updA y17 0 (bitsV op .i64 x19 y23) s6.1,updA y17 1 (bitsV op .i64 x19 y23) s6.2.1,updA y17 2 (bitsV op .i64 x19 y23) s6.2.2.1,updA y17 3 (bitsV op .i64 x19 y23) s6.2.2.2.1,updA y17 4 (bitsV op .i64 x19 y23) s6.2.2.2.2.1,updA y17 5 (bitsV op .i64 x19 y23) s6.2.2.2.2.2.1,updA y17 6 (bitsV op .i64 x19 y23) s6.2.2.2.2.2.2.1,updA y17 7 (bitsV op .i64 x19 y23) s6.2.2.2.2.2.2.2.1,updA y17 8 (bitsV op .i64 x19 y23) s6.2.2.2.2.2.2.2.2)) m (w9 n0 f)=some (w9 (tr n0 m.toNat) f):=by
 obtain⟨r,h2,h3⟩:=Kwg (n:=m) (s:=w9 n0 f) (f:=fun i5 s6=>bi (divZ .i64 (i5:Int) 16) fun y17=>bi (getZ ([s6.1,s6.2.1,s6.2.2.1,s6.2.2.2.1,s6.2.2.2.2.1,s6.2.2.2.2.2.1,s6.2.2.2.2.2.2.1,s6.2.2.2.2.2.2.2.1,s6.2.2.2.2.2.2.2.2]:List Int) y17) fun x19=>bi (remZ (i5:Int) 16) fun y21=>bi (shlZ .i64 1 y21) fun y23=>bi (getZ ([s6.1,s6.2.1,s6.2.2.1,s6.2.2.2.1,s6.2.2.2.2.1,s6.2.2.2.2.2.1,s6.2.2.2.2.2.2.1,s6.2.2.2.2.2.2.2.1,s6.2.2.2.2.2.2.2.2]:List Int) y17) fun x25=>some (updA y17 0 (bitsV op .i64 x19 y23) s6.1,updA y17 1 (bitsV op .i64 x19 y23) s6.2.1,updA y17 2 (bitsV op .i64 x19 y23) s6.2.2.1,updA y17 3 (bitsV op .i64 x19 y23) s6.2.2.2.1,updA y17 4 (bitsV op .i64 x19 y23) s6.2.2.2.2.1,updA y17 5 (bitsV op .i64 x19 y23) s6.2.2.2.2.2.1,updA y17 6 (bitsV op .i64 x19 y23) s6.2.2.2.2.2.2.1,updA y17 7 (bitsV op .i64 x19 y23) s6.2.2.2.2.2.2.2.1,updA y17 8 (bitsV op .i64 x19 y23) s6.2.2.2.2.2.2.2.2))
  (fun i s=>s=w9 (tr n0 i) f) (by unfold w9;simp only[h00]) (by
   rintro i s hi rfl
   have hi':i<128:=by omega
   obtain⟨e1,e2⟩:=Lio i hi'
   have hj:i / 16<8:=by omega
   have hm:i % 16<16:=Nat.mod_lt _ (by decide)
   have hp:2 ^ (i % 16)<2 ^ 16:=Nat.pow_lt_pow_right (by decide) hm
   refine⟨_,?_,rfl⟩
   simp only[e1,e2,bi_some,Kww _ _ _ hj,Kxo _ hm,hop _ _ (Kxq _ _) hp]
   have hu:∀ j,updA ((i / 16:Nat):Int) j ((g (dg (tr n0 i) (i / 16)) (2 ^ (i % 16)):Nat):Int) (dg (tr n0 i) j:Int)=(dg (tr n0 (i+1)) j:Int):=fun j=>Kwx (tr n0 i) (tr n0 (i+1)) (i / 16) j _ (hsame i) (hother i j)
   unfold w9
   simp only[hu]
   have h8:∀ v a:Int,updA ((i / 16:Nat):Int) 8 v a=a:=fun v a=>by unfold updA;rw[if_neg (by omega)]
   rw[h8])
 rw[h2,h3]
theorem Kwz{a:Kzo}(h:AOk a)(k:Nat)(hk:5≤k)(bits:Int)(h0:0≤bits)(h1:bits≤(if a.Six then 128 else 32)) :
  Lac k a bits=some (w9 (cl (nm a) ((if a.Six then 128 else 32) - bits).toNat) a.Six):=by
 unfold Lac
 rw[Kwu h k hk,Kwv]
 simp only[bi_some]
 have hL:(if a.Six then(128:Int) else 32)≤128:=by split<;>omega
 generalize (if a.Six then(128:Int) else 32)=L at h1 hL
 rw[Kvu (by omega) (by omega),dT (show L - bits≤9223372036854775807 by omega),gd_true]
 rw[Kwy (nm a) a.Six (L - bits) (by omega) (by omega) .andNot cl nsub (fun j=>by unfold cl;simp) (fun x y hx hy=>Kxk hx hy) (fun i=>Kxt _ i) (fun i j hj=>Kxu _ i j hj)]
 rfl
end Go.Gk
