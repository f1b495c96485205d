import Derived.Test.YtfnjahjbpaoepaaGreatDoorMStr3
import Derived.Test.YtfnjahjbpaoepaaGreatDoorMStr7
set_option linter.unusedVariables false
namespace Go.Gk
noncomputable section
structure Kzn where
 L:List Int
 v_at:Int
 deriving DecidableEq
structure Kzo where
 Six:Bool
 Hi:Int
 Lo:Int
 deriving DecidableEq
structure Kzp where
 Addr:Kzo
 Bits:Int
 deriving DecidableEq
structure Kzq where
 Prefix:Kzp
 Node:Str
 Weight:Int
 deriving DecidableEq
structure Kzr where
 A:Str
 v_B:Str
 Millis:Int
 deriving DecidableEq
structure Kzs where
 to:Str
 millis:Int
 deriving DecidableEq
structure Kzt where
 millis:Int
 links:Int
 deriving DecidableEq
def Kzu(x:Int)(n:Int):Option Int:=
 bif decide ((n:Int)<1) then(some 0) else(bi (remZ x n) fun y3=>bi (bif decide ((y3:Int)<0) then(some (wi (y3+n))) else(some y3)) fun q5=>some q5)
def Kzv(s:Kzn)(n:Int):Option (Int×Kzn):=
 bif ((s.L.length:Int):Int)==0 then(bi (Kzu (wi ((wi (s.v_at+1)) * 7919)) n) fun y2=>some (y2,(⟨s.L,wi (s.v_at+1)⟩:Kzn))) else(bi (remZ (wi ((wi (s.v_at+1)) - 1)) (s.L.length:Int)) fun y5=>bi (divZ .i64 (wi ((wi (s.v_at+1)) - 1)) (s.L.length:Int)) fun y7=>bi (getZ s.L y5) fun x9=>bi (Kzu x9 1073741824) fun y11=>bi (Kzu (wi (y11+(wi (y7 * (wi (7919+y5)))))) n) fun y13=>some (y13,(⟨s.L,wi (s.v_at+1)⟩:Kzn)))
def Kzw(s:Kzn)(n:Int):Option (Bool×Kzn):=
 bi (Kzv s n) fun y1=>some ((y1.1:Int)==0,y1.2)
def Kzx(s:Kzn)(l:List Int):Option (Int×Kzn):=
 bi (Kzv s (l.length:Int)) fun y1=>bi (getZ l y1.1) fun x3=>some (x3,y1.2)
def Kzy(s:Kzn)(low:Int)(high:Int):Option (Int×Kzn):=
 bif decide ((high:Int)<low) then(some (low,s)) else(bi (Kzv s (wi ((wi (high - low))+1))) fun y3=>some (wi (low+y3.1),y3.2))
def Kzz(s:Kzn):Option (Kzo×Kzn):=
 bi (Kzv s 6) fun y1=>bif (y1.1:Int)==0 then(bi (Kzv y1.2 5) fun y4=>bi (getZ [0,18230571291595767808,2306139568115548160,9223372036854775808,18446744073709551615] y4.1) fun x6=>bi (Kzv y4.2 5) fun y8=>bi (getZ [0,1,2,4294967296,18446744073709551615] y8.1) fun x10=>some ((⟨true,x6,x10⟩:Kzo),y8.2)) else(bif (y1.1:Int)==1 then(bi (Kzv y1.2 5) fun y14=>bi (getZ [0,1,4294967295,2130706433,3232235521] y14.1) fun x16=>some ((⟨false,0,x16⟩:Kzo),y14.2)) else(bif (y1.1:Int)==2 then(bi (Kzy y1.2 0 16777216) fun y20=>bi (remZ (IntKind.u64.wrap ((IntKind.u64.wrap (y20.1)) * 251)) 4294967296) fun y22=>some ((⟨false,0,y22⟩:Kzo),y20.2)) else(bi (Kzy y1.2 0 20) fun y25=>some ((⟨false,0,IntKind.u64.wrap (167772160+(IntKind.u64.wrap (y25.1)))⟩:Kzo),y25.2))))
def Laa(k:Nat)(a:Kzo):Option (Int×Int×Int×Int×Int×Int×Int×Int×Int):=
 bi (loopM (σ:=Int×Int×Int×Int×Int×Int×Int×Int×Int×Int) (ρ:=Int×Int×Int×Int×Int×Int×Int×Int×Int) (fun s2=>bif decide ((s2.2.2.2.2.2.2.2.2.2:Int)<4) then(bi (shrZ .u64 a.Lo (wi (16 * s2.2.2.2.2.2.2.2.2.2))) fun y12=>bi (getZ ([s2.1,s2.2.1,s2.2.2.1,s2.2.2.2.1,s2.2.2.2.2.1,s2.2.2.2.2.2.1,s2.2.2.2.2.2.2.1,s2.2.2.2.2.2.2.2.1,s2.2.2.2.2.2.2.2.2.1]:List Int) s2.2.2.2.2.2.2.2.2.2) fun x14=>bi (shrZ .u64 a.Hi (wi (16 * s2.2.2.2.2.2.2.2.2.2))) fun y16=>bi (getZ ([updA s2.2.2.2.2.2.2.2.2.2 0 (wi (bitsV .and .u64 y12 65535)) s2.1,updA s2.2.2.2.2.2.2.2.2.2 1 (wi (bitsV .and .u64 y12 65535)) s2.2.1,updA s2.2.2.2.2.2.2.2.2.2 2 (wi (bitsV .and .u64 y12 65535)) s2.2.2.1,updA s2.2.2.2.2.2.2.2.2.2 3 (wi (bitsV .and .u64 y12 65535)) s2.2.2.2.1,updA s2.2.2.2.2.2.2.2.2.2 4 (wi (bitsV .and .u64 y12 65535)) s2.2.2.2.2.1,updA s2.2.2.2.2.2.2.2.2.2 5 (wi (bitsV .and .u64 y12 65535)) s2.2.2.2.2.2.1,updA s2.2.2.2.2.2.2.2.2.2 6 (wi (bitsV .and .u64 y12 65535)) s2.2.2.2.2.2.2.1,updA s2.2.2.2.2.2.2.2.2.2 7 (wi (bitsV .and .u64 y12 65535)) s2.2.2.2.2.2.2.2.1,updA s2.2.2.2.2.2.2.2.2.2 8 (wi (bitsV .and .u64 y12 65535)) s2.2.2.2.2.2.2.2.2.1]:List Int) (wi (4+s2.2.2.2.2.2.2.2.2.2))) fun x18=>some (.go (updA (wi (4+s2.2.2.2.2.2.2.2.2.2)) 0 (wi (bitsV .and .u64 y16 65535)) (updA s2.2.2.2.2.2.2.2.2.2 0 (wi (bitsV .and .u64 y12 65535)) s2.1),updA (wi (4+s2.2.2.2.2.2.2.2.2.2)) 1 (wi (bitsV .and .u64 y16 65535)) (updA s2.2.2.2.2.2.2.2.2.2 1 (wi (bitsV .and .u64 y12 65535)) s2.2.1),updA (wi (4+s2.2.2.2.2.2.2.2.2.2)) 2 (wi (bitsV .and .u64 y16 65535)) (updA s2.2.2.2.2.2.2.2.2.2 2 (wi (bitsV .and .u64 y12 65535)) s2.2.2.1),updA (wi (4+s2.2.2.2.2.2.2.2.2.2)) 3 (wi (bitsV .and .u64 y16 65535)) (updA s2.2.2.2.2.2.2.2.2.2 3 (wi (bitsV .and .u64 y12 65535)) s2.2.2.2.1),updA (wi (4+s2.2.2.2.2.2.2.2.2.2)) 4 (wi (bitsV .and .u64 y16 65535)) (updA s2.2.2.2.2.2.2.2.2.2 4 (wi (bitsV .and .u64 y12 65535)) s2.2.2.2.2.1),updA (wi (4+s2.2.2.2.2.2.2.2.2.2)) 5 (wi (bitsV .and .u64 y16 65535)) (updA s2.2.2.2.2.2.2.2.2.2 5 (wi (bitsV .and .u64 y12 65535)) s2.2.2.2.2.2.1),updA (wi (4+s2.2.2.2.2.2.2.2.2.2)) 6 (wi (bitsV .and .u64 y16 65535)) (updA s2.2.2.2.2.2.2.2.2.2 6 (wi (bitsV .and .u64 y12 65535)) s2.2.2.2.2.2.2.1),updA (wi (4+s2.2.2.2.2.2.2.2.2.2)) 7 (wi (bitsV .and .u64 y16 65535)) (updA s2.2.2.2.2.2.2.2.2.2 7 (wi (bitsV .and .u64 y12 65535)) s2.2.2.2.2.2.2.2.1),updA (wi (4+s2.2.2.2.2.2.2.2.2.2)) 8 (wi (bitsV .and .u64 y16 65535)) (updA s2.2.2.2.2.2.2.2.2.2 8 (wi (bitsV .and .u64 y12 65535)) s2.2.2.2.2.2.2.2.2.1),wi (s2.2.2.2.2.2.2.2.2.2+1)))) else(some (.out (s2.1,s2.2.1,s2.2.2.1,s2.2.2.2.1,s2.2.2.2.2.1,s2.2.2.2.2.2.1,s2.2.2.2.2.2.2.1,s2.2.2.2.2.2.2.2.1,s2.2.2.2.2.2.2.2.2.1)))) k (0,0,0,0,0,0,0,0,0,0)) fun q4=>bi (bif a.Six then(some 1) else(some q4.2.2.2.2.2.2.2.2)) fun q21=>some (q4.1,q4.2.1,q4.2.2.1,q4.2.2.2.1,q4.2.2.2.2.1,q4.2.2.2.2.2.1,q4.2.2.2.2.2.2.1,q4.2.2.2.2.2.2.2.1,q21)
def Lab(a:Kzo):Option Int:=
 bif a.Six then(some 128) else(some 32)
def Lac(k:Nat)(a:Kzo)(bits:Int):Option (Int×Int×Int×Int×Int×Int×Int×Int×Int):=
 bi (Laa k a) fun y1=>bi (Lab a) fun y3=>bi (gd (decide ((wi (y3 - bits))≤9223372036854775807)) (rangeG (σ:=Int×Int×Int×Int×Int×Int×Int×Int×Int) (fun i5 s6=>bi (divZ .i64 (i5:Int) 16) fun y17=>bi (getZ ([s6.1,s6.2.1,s6.2.2.1,s6.2.2.2.1,s6.2.2.2.2.1,s6.2.2.2.2.2.1,s6.2.2.2.2.2.2.1,s6.2.2.2.2.2.2.2.1,s6.2.2.2.2.2.2.2.2]:List Int) y17) fun x19=>bi (remZ (i5:Int) 16) fun y21=>bi (shlZ .i64 1 y21) fun y23=>bi (getZ ([s6.1,s6.2.1,s6.2.2.1,s6.2.2.2.1,s6.2.2.2.2.1,s6.2.2.2.2.2.1,s6.2.2.2.2.2.2.1,s6.2.2.2.2.2.2.2.1,s6.2.2.2.2.2.2.2.2]:List Int) y17) fun x25=>some (updA y17 0 (bitsV .andNot .i64 x19 y23) s6.1,updA y17 1 (bitsV .andNot .i64 x19 y23) s6.2.1,updA y17 2 (bitsV .andNot .i64 x19 y23) s6.2.2.1,updA y17 3 (bitsV .andNot .i64 x19 y23) s6.2.2.2.1,updA y17 4 (bitsV .andNot .i64 x19 y23) s6.2.2.2.2.1,updA y17 5 (bitsV .andNot .i64 x19 y23) s6.2.2.2.2.2.1,updA y17 6 (bitsV .andNot .i64 x19 y23) s6.2.2.2.2.2.2.1,updA y17 7 (bitsV .andNot .i64 x19 y23) s6.2.2.2.2.2.2.2.1,updA y17 8 (bitsV .andNot .i64 x19 y23) s6.2.2.2.2.2.2.2.2)) (wi (y3 - bits)) (y1.1,y1.2.1,y1.2.2.1,y1.2.2.2.1,y1.2.2.2.2.1,y1.2.2.2.2.2.1,y1.2.2.2.2.2.2.1,y1.2.2.2.2.2.2.2.1,y1.2.2.2.2.2.2.2.2))) fun q8=>some (q8.1,q8.2.1,q8.2.2.1,q8.2.2.2.1,q8.2.2.2.2.1,q8.2.2.2.2.2.1,q8.2.2.2.2.2.2.1,q8.2.2.2.2.2.2.2.1,q8.2.2.2.2.2.2.2.2)
def Lad(k:Nat)(w:(Int×Int×Int×Int×Int×Int×Int×Int×Int)):Option Kzo:=
 bi (loopM (σ:=Kzo×Int) (ρ:=Kzo) (fun s2=>bif decide ((s2.2:Int)<4) then(bi (getZ ([w.1,w.2.1,w.2.2.1,w.2.2.2.1,w.2.2.2.2.1,w.2.2.2.2.2.1,w.2.2.2.2.2.2.1,w.2.2.2.2.2.2.2.1,w.2.2.2.2.2.2.2.2]:List Int) s2.2) fun x12=>bi (shlZ .u64 (IntKind.u64.wrap (x12)) (wi (16 * s2.2))) fun y14=>bi (getZ ([w.1,w.2.1,w.2.2.1,w.2.2.2.1,w.2.2.2.2.1,w.2.2.2.2.2.1,w.2.2.2.2.2.2.1,w.2.2.2.2.2.2.2.1,w.2.2.2.2.2.2.2.2]:List Int) (wi (4+s2.2))) fun x16=>bi (shlZ .u64 (IntKind.u64.wrap (x16)) (wi (16 * s2.2))) fun y18=>some (.go ((⟨s2.1.Six,bitsV .or .u64 s2.1.Hi y18,bitsV .or .u64 s2.1.Lo y14⟩:Kzo),wi (s2.2+1)))) else(some (.out s2.1))) k ((⟨false,0,0⟩:Kzo),0)) fun q4=>some (⟨decide ((w.2.2.2.2.2.2.2.2:Int)>0),q4.Hi,q4.Lo⟩:Kzo)
def Lae(k:Nat)(a:Kzo)(bits:Int):Option Kzp:=
 bi (Lac k a bits) fun y1=>bi (Lad k y1) fun y3=>some (⟨y3,bits⟩:Kzp)
def Laf(k:Nat)(s:Kzn):Option (Kzp×Kzn):=
 bi (Kzz s) fun y1=>bi (Kzx y1.2 [0,8,24,27,28,29,30,31,32]) fun y3=>bi (bif y1.1.Six then(bi (Kzx y3.2 [0,8,32,48,63,64,65,96,127,128]) fun y8=>some (y8.2,y8.1)) else(some (y3.2,y3.1))) fun q5=>bi (Lae k y1.1 q5.2) fun y11=>some (y11,q5.1)
def Lag(s:Kzn):Option (Kzo×Kzn):=
 bi (Kzz s) fun y1=>bi (Kzw y1.2 15) fun y3=>bif y3.1 then(bi (Kzv y3.2 2) fun y6=>bi (Kzv y6.2 3) fun y8=>bi (getZ [4294967296,5,1099511627776] y8.1) fun x10=>some ((⟨false,IntKind.u64.wrap (y6.1),x10⟩:Kzo),y8.2)) else(some (y1.1,y3.2))
def Lah(s:Kzn)(low:Int)(high:Int):Option (Int×Kzn):=
 bi (Kzw s 12) fun y1=>bif y1.1 then(bi (Kzx y1.2 [wi (low - 1),wi (high+1),low,high,-1099511627776,1099511627776]) fun y4=>some (y4.1,y4.2)) else(bi (Kzy y1.2 low high) fun y7=>some (y7.1,y7.2))
def Lai(k:Nat)(s:Kzn):Option (Kzp×Kzn):=
 bi (Laf k s) fun y1=>bi (Kzw y1.2 15) fun y3=>bi (bif y3.1 then(bi (Lag y3.2) fun y8=>bi (Lah y8.2 0 33) fun y10=>some (y10.2,(⟨y8.1,y10.1⟩:Kzp))) else(some (y3.2,y1.1))) fun q5=>some (q5.2,q5.1)
def Laj(s:Kzn)(l:List Str):Option (Str×Kzn):=
 bi (Kzv s (l.length:Int)) fun y1=>bi (getZ l y1.1) fun x3=>some (x3,y1.2)
def Lak(k:Nat)(s:Kzn):Option ((List Kzq)×Kzn):=
 bi (rangeF (σ:=Kzn×(List Kzq)) (fun i1 x3 s2=>bi (rangeF (σ:=Kzn×(List Kzq)) (fun i12 x14 s13=>bi (Kzw s13.1 2) fun y23=>bif y23.1 then(bi (Kzx y23.2 [0,5,5,9]) fun y26=>bi (apd s13.2 [(⟨x3,x14,y26.1⟩:Kzq)]) fun y28=>some (y26.2,y28)) else(some (y23.2,s13.2))) 0 [[110,97],[110,98],[110,99],[110,100]] (s2.1,s2.2)) fun q15=>some (q15.1,q15.2)) 0 [(⟨(⟨false,0,0⟩:Kzo),0⟩:Kzp),(⟨(⟨false,0,167772160⟩:Kzo),8⟩:Kzp),(⟨(⟨false,0,167772160⟩:Kzo),16⟩:Kzp),(⟨(⟨true,0,0⟩:Kzo),0⟩:Kzp)] (s,([]:List Kzq))) fun q4=>bi (Kzw q4.1 15) fun y31=>bi (bif y31.1 then(bi (Lai k y31.2) fun y36=>bi (Laj y36.2 [[],[110,97]]) fun y38=>bi (Lah y38.2 0 1000) fun y40=>bi (apd q4.2 [(⟨y36.1,y38.1,y40.1⟩:Kzq)]) fun y42=>some (y40.2,y42)) else(some (y31.2,q4.2))) fun q33=>some (q33.2,q33.1)
def Lal(a:Kzo):Option Int:=
 bif ((!a.Six)&&(((a.Hi:Int) != 0)||(decide ((a.Lo:Int)≥4294967296)))) then(some 3) else(some 0)
def Lam(a:Kzo):Option Int:=
 bif a.Six then(some 128) else(some 32)
def Lan(n:Int)(low:Int)(high:Int):Option Bool:=
 some ((decide ((n:Int)<low))||(decide ((n:Int)>high)))
def Lao(n:Int):Option (Int×Int):=
 bif decide ((n:Int)≥128) then(some (18446744073709551615,18446744073709551615)) else(bif decide ((n:Int)>64) then(bi (shlZ .u64 1 (wi (n - 64))) fun y4=>some (IntKind.u64.wrap (y4 - 1),18446744073709551615)) else(bif (n:Int)==64 then(some (0,18446744073709551615)) else(bi (shlZ .u64 1 n) fun y9=>some (0,IntKind.u64.wrap (y9 - 1)))))
def Lap(a:Kzo)(n:Int):Option Kzo:=
 bi (Lam a) fun y1=>bi (Lao (wi (y1 - n))) fun y3=>some (⟨a.Six,bitsV .andNot .u64 a.Hi y3.1,bitsV .andNot .u64 a.Lo y3.2⟩:Kzo)
def Laq(p:Kzp):Option Int:=
 bi (Lal p.Addr) fun y1=>bif (y1:Int) != 0 then(some 3) else(bi (Lam p.Addr) fun y5=>bi (Lan p.Bits 0 y5) fun y7=>bif y7 then(some 1) else(bi (Lap p.Addr p.Bits) fun y11=>bif !(((y11.Six:Bool)==p.Addr.Six)&&(((y11.Hi:Int)==p.Addr.Hi)&&(((y11.Lo:Int)==p.Addr.Lo)&&true))) then(some 3) else(some 0)))
def Lar(k:Nat)(s:Str):Option Bool:=
 bi (loopM (σ:=Int) (ρ:=Unit ⊕ Bool) (fun s2=>bif decide ((s2:Int)<(s.length:Int)) then(bi (getZ s s2) fun c12=>bif !(((decide (((c12.toNat:Int):Int)≥97))&&(decide (((c12.toNat:Int):Int)≤122)))||((decide ((s2:Int)>0))&&((((decide (((c12.toNat:Int):Int)≥48))&&(decide (((c12.toNat:Int):Int)≤57)))||(((c12.toNat:Int):Int)==45))||(((c12.toNat:Int):Int)==95)))) then(bi (some false) fun v=>some (.out (.inr v))) else(some (.go (wi (s2+1))))) else(some (.out (.inl ())))) k 0) fun q=>orI q fun a6=>some ((!((s:Str)==[]))&&(decide (((s.length:Int):Int)≤40)))
def Las(x:Int):Option Bool:=
 some ((x:Int) != x)
def Lat(x:Int)(y:Int):Option Int:=
 bi (Las x) fun y1=>bi (Las y) fun y3=>bif y1 then(bif y3 then(some 0) else(some (-1))) else(bif y3 then(some 1) else(bif decide ((x:Int)<y) then(some (-1)) else(bif decide ((x:Int)>y) then(some 1) else(some 0))))
def Lau(vals:List Int):Option Int:=
 bi (rangeM (σ:=Unit) (ρ:=Int) (fun i1 x3 s2=>bif (x3:Int) != 0 then(bi (some x3) fun v=>some (.out v)) else(some (.go ()))) 0 vals ()) fun q=>goI q fun a6=>some 0
def Lav(a:Kzo)(b:Kzo):Option Int:=
 bif !((a.Six:Bool)==b.Six) then(bif b.Six then(some (-1)) else(some 1)) else(bi (Lat a.Hi b.Hi) fun y5=>bi (Lat a.Lo b.Lo) fun y7=>bi (Lau [y5,y7]) fun y9=>some y9)
def Law(x:Int):Option Bool:=
 some ((x:Int) != x)
def Lax(x:Int)(y:Int):Option Int:=
 bi (Law x) fun y1=>bi (Law y) fun y3=>bif y1 then(bif y3 then(some 0) else(some (-1))) else(bif y3 then(some 1) else(bif decide ((x:Int)<y) then(some (-1)) else(bif decide ((x:Int)>y) then(some 1) else(some 0))))
def Laz(p:Kzp)(q:Kzp):Option Int:=
 bi (Lav p.Addr q.Addr) fun y1=>bi (Lax p.Bits q.Bits) fun y3=>bi (Lau [y1,y3]) fun y5=>some y5
def Lba(a:Kzq)(b:Kzq):Option Int:=
 bi (Laz a.Prefix b.Prefix) fun y1=>bi (Ktj a.Node b.Node) fun y3=>bi (Lau [y1,y3]) fun y5=>some y5
def Lbb(k:Nat)(l:List Kzq):Option Int:=
 bif decide (((l.length:Int):Int)>500) then(some 2) else(bi (rangeM (σ:=Unit) (ρ:=Int) (fun i3 x5 s4=>bi (Laq x5.Prefix) fun y14=>bif (y14:Int) != 0 then(bi (some y14) fun v=>some (.out v)) else(bi (Lar k x5.Node) fun y20=>bif !y20 then(bi (some 5) fun v=>some (.out v)) else(bi (Lan x5.Weight 0 1000) fun y26=>bif y26 then(bi (some 1) fun v=>some (.out v)) else(bi (bif decide (((i3:Int):Int)>0) then(bi (getZ l (wi ((i3:Int) - 1))) fun x35=>bi (Lba x35 x5) fun y37=>some (decide ((y37:Int)≥0))) else(some false)) fun q32=>bif q32 then(bi (some 7) fun v=>some (.out v)) else(some (.go ())))))) 0 l ()) fun q=>goI q fun a8=>some 0)
def Lbc(k:Nat)(a:Kzo):Option (Int×Int×Int×Int×Int×Int×Int×Int):=
 bi (loopM (σ:=(Int×Int×Int×Int×Int×Int×Int×Int)×Int) (ρ:=(Int×Int×Int×Int×Int×Int×Int×Int)) (fun s2=>bif decide ((s2.2:Int)<4) then(bi (shrZ .u64 a.Hi (wi (48 - (wi (16 * s2.2))))) fun y12=>bi (getZ ([s2.1.1,s2.1.2.1,s2.1.2.2.1,s2.1.2.2.2.1,s2.1.2.2.2.2.1,s2.1.2.2.2.2.2.1,s2.1.2.2.2.2.2.2.1,s2.1.2.2.2.2.2.2.2]:List Int) s2.2) fun x14=>bi (shrZ .u64 a.Lo (wi (48 - (wi (16 * s2.2))))) fun y16=>bi (getZ ([updA s2.2 0 (bitsV .and .u64 y12 65535) s2.1.1,updA s2.2 1 (bitsV .and .u64 y12 65535) s2.1.2.1,updA s2.2 2 (bitsV .and .u64 y12 65535) s2.1.2.2.1,updA s2.2 3 (bitsV .and .u64 y12 65535) s2.1.2.2.2.1,updA s2.2 4 (bitsV .and .u64 y12 65535) s2.1.2.2.2.2.1,updA s2.2 5 (bitsV .and .u64 y12 65535) s2.1.2.2.2.2.2.1,updA s2.2 6 (bitsV .and .u64 y12 65535) s2.1.2.2.2.2.2.2.1,updA s2.2 7 (bitsV .and .u64 y12 65535) s2.1.2.2.2.2.2.2.2]:List Int) (wi (4+s2.2))) fun x18=>some (.go ((updA (wi (4+s2.2)) 0 (bitsV .and .u64 y16 65535) (updA s2.2 0 (bitsV .and .u64 y12 65535) s2.1.1),updA (wi (4+s2.2)) 1 (bitsV .and .u64 y16 65535) (updA s2.2 1 (bitsV .and .u64 y12 65535) s2.1.2.1),updA (wi (4+s2.2)) 2 (bitsV .and .u64 y16 65535) (updA s2.2 2 (bitsV .and .u64 y12 65535) s2.1.2.2.1),updA (wi (4+s2.2)) 3 (bitsV .and .u64 y16 65535) (updA s2.2 3 (bitsV .and .u64 y12 65535) s2.1.2.2.2.1),updA (wi (4+s2.2)) 4 (bitsV .and .u64 y16 65535) (updA s2.2 4 (bitsV .and .u64 y12 65535) s2.1.2.2.2.2.1),updA (wi (4+s2.2)) 5 (bitsV .and .u64 y16 65535) (updA s2.2 5 (bitsV .and .u64 y12 65535) s2.1.2.2.2.2.2.1),updA (wi (4+s2.2)) 6 (bitsV .and .u64 y16 65535) (updA s2.2 6 (bitsV .and .u64 y12 65535) s2.1.2.2.2.2.2.2.1),updA (wi (4+s2.2)) 7 (bitsV .and .u64 y16 65535) (updA s2.2 7 (bitsV .and .u64 y12 65535) s2.1.2.2.2.2.2.2.2)),wi (s2.2+1)))) else(some (.out (s2.1.1,s2.1.2.1,s2.1.2.2.1,s2.1.2.2.2.1,s2.1.2.2.2.2.1,s2.1.2.2.2.2.2.1,s2.1.2.2.2.2.2.2.1,s2.1.2.2.2.2.2.2.2)))) k ((0,0,0,0,0,0,0,0),0)) fun q4=>some (q4.1,q4.2.1,q4.2.2.1,q4.2.2.2.1,q4.2.2.2.2.1,q4.2.2.2.2.2.1,q4.2.2.2.2.2.2.1,q4.2.2.2.2.2.2.2)
def Lbd(k:Nat)(g:(Int×Int×Int×Int×Int×Int×Int×Int)):Option (Int×Int):=
 bi (loopM (σ:=Int×Int×Int) (ρ:=Int×Int) (fun s2=>bif decide ((s2.2.2:Int)<8) then(bi (loopM (σ:=Int) (ρ:=Int) (fun s13=>bi (bif decide ((wi (s2.2.2+s13):Int)<8) then(bi (getZ ([g.1,g.2.1,g.2.2.1,g.2.2.2.1,g.2.2.2.2.1,g.2.2.2.2.2.1,g.2.2.2.2.2.2.1,g.2.2.2.2.2.2.2]:List Int) (wi (s2.2.2+s13))) fun x25=>some ((x25:Int)==0)) else(some false)) fun q22=>bif q22 then(some (.go (wi (s13+1)))) else(some (.out s13))) k 0) fun q15=>bi (bif decide ((q15:Int)>s2.2.1) then(some (s2.2.2,q15)) else(some (s2.1,s2.2.1))) fun q30=>some (.go (q30.1,q30.2,wi ((wi (s2.2.2+q15))+1)))) else(some (.out (s2.1,s2.2.1)))) k (0,0,0)) fun q4=>some (q4.1,q4.2)
def Lbe(k:Nat)(a:Kzo):Option Str:=
 bif !a.Six then(bi (loopM (σ:=(List Str)×Int) (ρ:=List Str) (fun s3=>bif decide ((s3.2:Int)<4) then(bi (shrZ .u64 a.Lo (wi (24 - (wi (8 * s3.2))))) fun y13=>bi (Ktn (bitsV .and .u64 y13 255) 10) fun y15=>bi (apd s3.1 [y15]) fun y17=>some (.go (y17,wi (s3.2+1)))) else(some (.out s3.1))) k (([]:List Str),0)) fun q5=>bi (Kto q5 [46]) fun y20=>some y20) else(bi (Lbc k a) fun y23=>bi (loopM (σ:=(List Str)×Int) (ρ:=List Str) (fun s26=>bif decide ((s26.2:Int)<8) then(bi (getZ ([y23.1,y23.2.1,y23.2.2.1,y23.2.2.2.1,y23.2.2.2.2.1,y23.2.2.2.2.2.1,y23.2.2.2.2.2.2.1,y23.2.2.2.2.2.2.2]:List Int) s26.2) fun x36=>bi (Ktn x36 16) fun y38=>bi (apd s26.1 [y38]) fun y40=>some (.go (y40,wi (s26.2+1)))) else(some (.out s26.1))) k (([]:List Str),0)) fun q28=>bi (Lbd k (y23.1,y23.2.1,y23.2.2.1,y23.2.2.2.1,y23.2.2.2.2.1,y23.2.2.2.2.2.1,y23.2.2.2.2.2.2.1,y23.2.2.2.2.2.2.2)) fun y43=>bif decide ((y43.2:Int)<2) then(bi (Kto q28 [58]) fun y46=>some y46) else(bi (subZ q28 0 y43.1) fun z49=>bi (Kto z49 [58]) fun y51=>bi (catZ y51 [58,58]) fun y53=>bi (subZ q28 (wi (y43.1+y43.2)) (q28.length:Int)) fun z55=>bi (Kto z55 [58]) fun y57=>bi (catZ y53 y57) fun y59=>some y59))
def Lbf(k:Nat)(p:Kzp):Option Str:=
 bi (Lbe k p.Addr) fun y1=>bi (catZ y1 [47]) fun y3=>bi (Ktl p.Bits) fun y5=>bi (catZ y3 y5) fun y7=>some y7
def Lbg(k:Nat)(p:Kzp):Option (Str×Int):=
 bi (Laq p) fun y1=>bif (y1:Int) != 0 then(some ([],y1)) else(bi (Lbf k p) fun y5=>some (y5,0))
def Lbh(b:Str)(s:Str):Option (Int×Str):=
 bi (Kjl b) fun y1=>bi (apd b s) fun y3=>some ((s.length:Int),y3)
def Lbi(b:Str):Option Int:=
 some (b.length:Int)
def Lbj(k:Nat)(v_r:List Kzq):Option (Str×Int):=
 bi (Lbb k v_r) fun y1=>bif (y1:Int) != 0 then(some ([],y1)) else(bi (rangeF (σ:=List UInt8) (fun i5 x7 s6=>bi (Lbg k x7.Prefix) fun y16=>bi (catZ y16.1 [32]) fun y18=>bi (catZ y18 x7.Node) fun y20=>bi (catZ y20 [32]) fun y22=>bi (Ktl x7.Weight) fun y24=>bi (catZ y22 y24) fun y26=>bi (catZ y26 [10]) fun y28=>bi (Lbh s6 y28) fun y30=>some y30.2) 0 v_r ([]:Str)) fun q8=>bi (Lbi q8) fun y32=>bif decide ((y32:Int)>200000) then(some ([],2)) else(bi (Kjm q8) fun y36=>some (y36,0)))
def Lbk(a:Kzo):Option Int:=
 bif ((!a.Six)&&((decide ((a.Hi:Int)>0))||(decide ((a.Lo:Int)>4294967295)))) then(some 3) else(some 0)
def Lbl(n:Int)(low:Int)(high:Int):Option Bool:=
 some ((decide ((low:Int)≤n))&&(decide ((n:Int)≤high)))
def Lbm(k:Nat)(p:Kzp):Option Int:=
 bi (Lbk p.Addr) fun y1=>bif (y1:Int) != 0 then(some y1) else(bi (Lab p.Addr) fun y5=>bi (Lbl p.Bits 0 y5) fun y7=>bif !y7 then(some 1) else(bi (Lac k p.Addr p.Bits) fun y11=>bi (Laa k p.Addr) fun y13=>bif !decide (([y11.1,y11.2.1,y11.2.2.1,y11.2.2.2.1,y11.2.2.2.2.1,y11.2.2.2.2.2.1,y11.2.2.2.2.2.2.1,y11.2.2.2.2.2.2.2.1,y11.2.2.2.2.2.2.2.2]:List Int)=([y13.1,y13.2.1,y13.2.2.1,y13.2.2.2.1,y13.2.2.2.2.1,y13.2.2.2.2.2.1,y13.2.2.2.2.2.2.1,y13.2.2.2.2.2.2.2.1,y13.2.2.2.2.2.2.2.2]:List Int)) then(some 3) else(some 0)))
def Lbn(s:Str)(v_some:Str):Option Bool:=
 bi (Ktc s v_some) fun y1=>some ((y1:Str)==[])
def Lbo(s:Str):Option Bool:=
 bi (Lbl (s.length:Int) 1 40) fun y1=>bi (bif y1 then(bi (subZ s 0 1) fun z6=>bi (Lbn z6 [97,98,99,100,101,102,103,104,105,106,107,108,109,110,111,112,113,114,115,116,117,118,119,120,121,122]) fun y8=>some y8) else(some false)) fun q3=>bi (bif q3 then(bi (Lbn s [97,98,99,100,101,102,103,104,105,106,107,108,109,110,111,112,113,114,115,116,117,118,119,120,121,122,48,49,50,51,52,53,54,55,56,57,45,95]) fun y14=>some y14) else(some false)) fun q11=>some q11
def Lbp(n:Int)(low:Int)(high:Int):Option Bool:=
 some ((decide ((low:Int)≤n))&&(decide ((n:Int)≤high)))
def Lbq(n:Int):Option Int:=
 bif decide ((n:Int)<0) then(some (-1)) else(bif decide ((n:Int)>0) then(some 1) else(some 0))
def Lbr(k:Nat)(w:(Int×Int×Int×Int×Int×Int×Int×Int×Int))(v:(Int×Int×Int×Int×Int×Int×Int×Int×Int)):Option Int:=
 bi (loopM (σ:=Int) (ρ:=Unit ⊕ Int) (fun s2=>bif decide ((s2:Int)≥0) then(bi (getZ ([w.1,w.2.1,w.2.2.1,w.2.2.2.1,w.2.2.2.2.1,w.2.2.2.2.2.1,w.2.2.2.2.2.2.1,w.2.2.2.2.2.2.2.1,w.2.2.2.2.2.2.2.2]:List Int) s2) fun x12=>bi (getZ ([v.1,v.2.1,v.2.2.1,v.2.2.2.1,v.2.2.2.2.1,v.2.2.2.2.2.1,v.2.2.2.2.2.2.1,v.2.2.2.2.2.2.2.1,v.2.2.2.2.2.2.2.2]:List Int) s2) fun x14=>bif (x12:Int) != x14 then(bi (getZ ([w.1,w.2.1,w.2.2.1,w.2.2.2.1,w.2.2.2.2.1,w.2.2.2.2.2.1,w.2.2.2.2.2.2.1,w.2.2.2.2.2.2.2.1,w.2.2.2.2.2.2.2.2]:List Int) s2) fun x17=>bi (getZ ([v.1,v.2.1,v.2.2.1,v.2.2.2.1,v.2.2.2.2.1,v.2.2.2.2.2.1,v.2.2.2.2.2.2.1,v.2.2.2.2.2.2.2.1,v.2.2.2.2.2.2.2.2]:List Int) s2) fun x19=>bi (Lbq (wi (x17 - x19))) fun y21=>bi (some y21) fun v=>some (.out (.inr v))) else(some (.go (wi (s2 - 1))))) else(some (.out (.inl ())))) k 8) fun q=>orI q fun a6=>some 0
def Lbs(k:Nat)(a:Kzo)(b:Kzo):Option Int:=
 bi (Laa k a) fun y1=>bi (Laa k b) fun y3=>bi (Lbr k y1 y3) fun y5=>some y5
def Lbt(k:Nat)(a:Kzp)(b:Kzp):Option Int:=
 bi (Lbs k a.Addr b.Addr) fun y1=>bi (Lax a.Bits b.Bits) fun y3=>bi (Lau [y1,y3]) fun y5=>some y5
def Lbu(k:Nat)(l:List Kzq):Option Int:=
 bif decide (((l.length:Int):Int)>500) then(some 2) else(bi (rangeM (σ:=Unit) (ρ:=Int) (fun i3 x5 s4=>bi (Lbm k x5.Prefix) fun y14=>bif (y14:Int) != 0 then(bi (some y14) fun v=>some (.out v)) else(bi (Lbo x5.Node) fun y20=>bif !y20 then(bi (some 5) fun v=>some (.out v)) else(bi (Lbp x5.Weight 0 1000) fun y26=>bif !y26 then(bi (some 1) fun v=>some (.out v)) else(bi (bif decide (((i3:Int):Int)>0) then(bi (getZ l (wi ((i3:Int) - 1))) fun x35=>bi (Lbt k x35.Prefix x5.Prefix) fun y37=>bi (getZ l (wi ((i3:Int) - 1))) fun x39=>bi (Ktj x39.Node x5.Node) fun y41=>bi (Lau [y37,y41]) fun y43=>some (decide ((y43:Int)≥0))) else(some false)) fun q32=>bif q32 then(bi (some 7) fun v=>some (.out v)) else(some (.go ())))))) 0 l ()) fun q=>goI q fun a8=>some 0)
def Lbv(k:Nat)(a:Kzo):Option (List Int):=
 bi (Laa k a) fun y1=>bi (loopM (σ:=(List Int)×Int) (ρ:=List Int) (fun s4=>bif decide ((s4.2:Int)≥0) then(bi (getZ ([y1.1,y1.2.1,y1.2.2.1,y1.2.2.2.1,y1.2.2.2.2.1,y1.2.2.2.2.2.1,y1.2.2.2.2.2.2.1,y1.2.2.2.2.2.2.2.1,y1.2.2.2.2.2.2.2.2]:List Int) s4.2) fun x14=>bi (apd s4.1 [x14]) fun y16=>some (.go (y16,wi (s4.2 - 1)))) else(some (.out s4.1))) k (([]:List Int),7)) fun q6=>some q6
def Lbw(s:Str):Option Bool:=
 some (!((s:Str)==[48]))
def Lbx(s:List Str):Option Int:=
 bi (rangeM (σ:=Unit) (ρ:=Int) (fun i1 x3 s2=>bi (Lbw x3) fun y12=>bif y12 then(bi (some (i1:Int)) fun v=>some (.out v)) else(some (.go ()))) 0 s ()) fun q=>goI q fun a6=>some (-1)
def Lby(s:List Str):Option Bool:=
 bi (Lbx s) fun y1=>some (decide ((y1:Int)≥0))
def Lbz(k:Nat)(a:Kzo):Option Str:=
 bif !a.Six then(bi (Laa k a) fun y2=>bi (rangeF (σ:=List Str) (fun i4 x6 s5=>bi (Ktl x6) fun y15=>bi (apd s5 [y15]) fun y17=>some y17) 0 [shrV .i64 y2.2.1 8,bitsV .and .i64 y2.2.1 255,shrV .i64 y2.1 8,bitsV .and .i64 y2.1 255] ([]:List Str)) fun q7=>bi (Kto q7 [46]) fun y19=>some y19) else(bi (Lbv k a) fun y22=>bi (rangeF (σ:=List Str) (fun i24 x26 s25=>bi (Ktm x26 16) fun y35=>bi (apd s25 [y35]) fun y37=>some y37) 0 y22 ([]:List Str)) fun q27=>bi (loopM (σ:=Int) (ρ:=Unit ⊕ Str) (fun s40=>bif decide ((s40:Int)≥2) then(bi (loopM (σ:=Int) (ρ:=Unit ⊕ (LS Int (Unit ⊕ Str))) (fun s51=>bif decide ((wi (s51+s40):Int)≤8) then(bi (subZ q27 s51 (wi (s51+s40))) fun z61=>bi (Lby z61) fun y63=>bif !y63 then(bi (subZ q27 0 s51) fun z66=>bi (Kto z66 [58]) fun y68=>bi (catZ y68 [58,58]) fun y70=>bi (subZ q27 (wi (s51+s40)) (q27.length:Int)) fun z72=>bi (Kto z72 [58]) fun y74=>bi (catZ y70 y74) fun y76=>bi (bi (some y76) fun v=>some (.out (.inr v))) fun v=>some (.out (.inr v))) else(some (.go (wi (s51+1))))) else(some (.out (.inl ())))) k 0) fun q=>orI q fun a55=>some (.go (wi (s40 - 1)))) else(some (.out (.inl ())))) k 8) fun q=>orI q fun a44=>bi (Kto q27 [58]) fun y85=>some y85)
def Lca(k:Nat)(p:Kzp):Option Str:=
 bi (Lbz k p.Addr) fun y1=>bi (catZ y1 [47]) fun y3=>bi (Ktl p.Bits) fun y5=>bi (catZ y3 y5) fun y7=>some y7
def Lcb(k:Nat)(l:List Kzq):Option Str:=
 bi (rangeF (σ:=List UInt8) (fun i1 x3 s2=>bi (Lca k x3.Prefix) fun y12=>bi (catZ y12 [32]) fun y14=>bi (catZ y14 x3.Node) fun y16=>bi (catZ y16 [32]) fun y18=>bi (Ktl x3.Weight) fun y20=>bi (catZ y18 y20) fun y22=>bi (catZ y22 [10]) fun y24=>bi (Lbh s2 y24) fun y26=>some y26.2) 0 l ([]:Str)) fun q4=>bi (Kjm q4) fun y28=>some y28
def Lcc(s:Kzn)(t:Str)(v_with:Str):Option (Str×Kzn):=
 bif (((t:Str)==[])||((v_with:Str)==[])) then(some (v_with,s)) else(bi (Kzv s (t.length:Int)) fun y3=>bi (Kzv y3.2 (v_with.length:Int)) fun y5=>bi (getZ v_with y5.1) fun c7=>bi (Kzv y5.2 3) fun y9=>bif (y9.1:Int)==0 then(bi (subZ t 0 y3.1) fun z12=>bi (catZ z12 (runeS (IntKind.i32.wrap ((c7.toNat:Int))))) fun y14=>bi (subZ t (wi (y3.1+1)) (t.length:Int)) fun z16=>bi (catZ y14 z16) fun y18=>some (y18,y9.2)) else(bif (y9.1:Int)==1 then(bi (subZ t 0 y3.1) fun z22=>bi (catZ z22 (runeS (IntKind.i32.wrap ((c7.toNat:Int))))) fun y24=>bi (subZ t y3.1 (t.length:Int)) fun z26=>bi (catZ y24 z26) fun y28=>some (y28,y9.2)) else(bi (subZ t 0 y3.1) fun z31=>bi (subZ t (wi (y3.1+1)) (t.length:Int)) fun z33=>bi (catZ z31 z33) fun y35=>some (y35,y9.2))))
def Lcd(k:Nat)(s:Kzn):Option (Str×Kzn):=
 bi (Lak k s) fun y1=>bi (Lbu k y1.1) fun y3=>bi (bif (y3:Int)==0 then(bi (Lcb k y1.1) fun y8=>some y8) else(some [48,46,48,46,48,46,48,47,48,32,110,97,32,53,10])) fun q5=>bi (Kzx y1.2 [0,0,1,2]) fun y11=>bi (gd (decide (y11.1≤9223372036854775807)) (rangeG (σ:=Kzn×Str) (fun i13 s14=>bi (Lcc s14.1 s14.2 [32,10,48,46,47,57,110,97]) fun y25=>some (y25.2,y25.1)) y11.1 (y11.2,q5))) fun q16=>some (q16.2,q16.1)
def Lce(s:Str):Option ((List Str)×Bool):=
 bi (Ktd s [10]) fun y1=>bi (getZ y1 (wi ((y1.length:Int) - 1))) fun x3=>bif (x3:Str)==[] then(bi (subZ y1 0 (wi ((y1.length:Int) - 1))) fun z6=>some (z6,true)) else(some (y1,false))
def Lcf(s:List Str)(v:Str):Option Int:=
 bi (rangeM (σ:=Unit) (ρ:=Int) (fun i1 x3 s2=>bif (v:Str)==x3 then(bi (some (i1:Int)) fun v=>some (.out v)) else(some (.go ()))) 0 s ()) fun q=>goI q fun a6=>some (-1)
def Lcg(s:List Str)(v:Str):Option Bool:=
 bi (Lcf s v) fun y1=>some (decide ((y1:Int)≥0))
def Lch(s:Str):Option ((List Str)×Bool):=
 bi (Ktd s [32]) fun y1=>bi (Lcg y1 []) fun y3=>some (y1,!y3)
def Lci(k:Nat)(s:Str)(most:Int):Option (Int×Bool):=
 bi (Ksz s [45]) fun y1=>bi (bif (((y1:Str)==[])||(decide (((y1.length:Int):Int)>most))) then(some true) else(bi (getZ y1 0) fun c7=>some ((((c7.toNat:Int):Int)==48)&&(!((s:Str)==[48]))))) fun q3=>bif q3 then(some (0,false)) else(bi (loopM (σ:=Int) (ρ:=Unit ⊕ (Int×Bool)) (fun s12=>bif decide ((s12:Int)<(y1.length:Int)) then(bi (getZ y1 s12) fun c22=>bi (bif decide (((c22.toNat:Int):Int)<48) then(some true) else(bi (getZ y1 s12) fun c28=>some (decide (((c28.toNat:Int):Int)>57)))) fun q24=>bif q24 then(bi (some (0,false)) fun v=>some (.out (.inr v))) else(some (.go (wi (s12+1))))) else(some (.out (.inl ())))) k 0) fun q=>orI q fun a16=>bi (Ktr s) fun y35=>some (y35,true))
def Lcj(k:Nat)(s:Str):Option (Int×Bool):=
 bi (Ktd s [46]) fun y1=>bif ((y1.length:Int):Int) != 4 then(some (0,false)) else(bi (rangeM (σ:=Int) (ρ:=Int×Bool) (fun i5 x7 s6=>bi (Lci k x7 3) fun y16=>bif (((!y16.2)||(decide ((y16.1:Int)<0)))||(decide ((y16.1:Int)>255))) then(bi (some (0,false)) fun v=>some (.out v)) else(some (.go (bitsV .or .u64 (shlV .u64 s6 8) (IntKind.u64.wrap (y16.1)))))) 0 y1 0) fun q=>goI q fun a10=>some (a10,true))
def Lck(k:Nat)(s:Str)(last:Bool):Option ((List Int)×Bool):=
 bif (s:Str)==[] then(some ([],true)) else(bi (Ktd s [58]) fun y3=>bi (rangeM (σ:=List Int) (ρ:=(List Int)×Bool) (fun i5 x7 s6=>bi (bif (last&&(((i5:Int):Int)==(wi ((y3.length:Int) - 1)))) then(bi (Kti x7 [46]) fun y19=>some y19) else(some false)) fun q16=>bif q16 then(bi (Lcj k x7) fun y23=>bi (apd s6 [shrV .u64 y23.1 16,bitsV .and .u64 y23.1 65535]) fun y25=>bi (some (y25,y23.2)) fun v=>some (.out v)) else(bi (bif (((x7:Str)==[])||(decide (((x7.length:Int):Int)>4))) then(some true) else(bi (Ktc x7 [48,49,50,51,52,53,54,55,56,57,97,98,99,100,101,102,65,66,67,68,69,70]) fun y34=>some (!((y34:Str)==[])))) fun q30=>bif q30 then(bi (some ([],false)) fun v=>some (.out v)) else(bi (Ktp x7 16 64) fun y40=>match y40 with | none=>(bi (some ([],false)) fun v=>some (.out v)) | some z42=>(bi (apd s6 [z42]) fun y47=>some (.go y47))))) 0 y3 ([]:List Int)) fun q=>goI q fun a10=>some (a10,true))
def Lcl(k:Nat)(s:Str):Option (Kzo×Int):=
 bi (Kti s [58]) fun y1=>bif !y1 then(bi (Lcj k s) fun y4=>bif !y4.2 then(some ((⟨false,0,0⟩:Kzo),9)) else(some ((⟨false,0,y4.1⟩:Kzo),0))) else(bi (Ktf s [58,58]) fun y9=>bi (Lck k y9.1 (!y9.2.2)) fun y11=>bi (Lck k y9.2.1 true) fun y13=>bif ((((!y11.2)||(!y13.2))||(y9.2.2&&(decide ((wi ((y11.1.length:Int)+(y13.1.length:Int)):Int)>7))))||((!y9.2.2)&&(((y11.1.length:Int):Int) != 8))) then(some ((⟨false,0,0⟩:Kzo),9)) else(gd (decide ((0:Int)≤(wi (8 - (y13.1.length:Int))))&&decide ((wi (8 - (y13.1.length:Int)))≤((8:Nat):Int))) (bi (loopM (σ:=Kzo×Int) (ρ:=Kzo) (fun s20=>bif decide ((s20.2:Int)<4) then(bi (getZ ([cpA (wi (8 - (y13.1.length:Int))).toNat y13.1 0 (cpA (0:Int).toNat y11.1 0 0),cpA (wi (8 - (y13.1.length:Int))).toNat y13.1 1 (cpA (0:Int).toNat y11.1 1 0),cpA (wi (8 - (y13.1.length:Int))).toNat y13.1 2 (cpA (0:Int).toNat y11.1 2 0),cpA (wi (8 - (y13.1.length:Int))).toNat y13.1 3 (cpA (0:Int).toNat y11.1 3 0),cpA (wi (8 - (y13.1.length:Int))).toNat y13.1 4 (cpA (0:Int).toNat y11.1 4 0),cpA (wi (8 - (y13.1.length:Int))).toNat y13.1 5 (cpA (0:Int).toNat y11.1 5 0),cpA (wi (8 - (y13.1.length:Int))).toNat y13.1 6 (cpA (0:Int).toNat y11.1 6 0),cpA (wi (8 - (y13.1.length:Int))).toNat y13.1 7 (cpA (0:Int).toNat y11.1 7 0)]:List Int) s20.2) fun x30=>bi (getZ ([cpA (wi (8 - (y13.1.length:Int))).toNat y13.1 0 (cpA (0:Int).toNat y11.1 0 0),cpA (wi (8 - (y13.1.length:Int))).toNat y13.1 1 (cpA (0:Int).toNat y11.1 1 0),cpA (wi (8 - (y13.1.length:Int))).toNat y13.1 2 (cpA (0:Int).toNat y11.1 2 0),cpA (wi (8 - (y13.1.length:Int))).toNat y13.1 3 (cpA (0:Int).toNat y11.1 3 0),cpA (wi (8 - (y13.1.length:Int))).toNat y13.1 4 (cpA (0:Int).toNat y11.1 4 0),cpA (wi (8 - (y13.1.length:Int))).toNat y13.1 5 (cpA (0:Int).toNat y11.1 5 0),cpA (wi (8 - (y13.1.length:Int))).toNat y13.1 6 (cpA (0:Int).toNat y11.1 6 0),cpA (wi (8 - (y13.1.length:Int))).toNat y13.1 7 (cpA (0:Int).toNat y11.1 7 0)]:List Int) (wi (4+s20.2))) fun x32=>some (.go ((⟨s20.1.Six,bitsV .or .u64 (shlV .u64 s20.1.Hi 16) x30,bitsV .or .u64 (shlV .u64 s20.1.Lo 16) x32⟩:Kzo),wi (s20.2+1)))) else(some (.out s20.1))) k ((⟨true,0,0⟩:Kzo),0)) fun q22=>some (q22,0))))
def Lcm(k:Nat)(s:Str):Option (Kzo×Int):=
 bi (Lcl k s) fun y1=>bi (bif (y1.2:Int) != 0 then(some true) else(bi (Lbe k y1.1) fun y7=>some (!((y7:Str)==s)))) fun q3=>bif q3 then(some ((⟨false,0,0⟩:Kzo),9)) else(some (y1.1,0))
def Lcn(k:Nat)(s:Str):Option (Kzp×Int):=
 bi (Ktf s [47]) fun y1=>bi (Lcm k y1.1) fun y3=>bi (Lci k y1.2.1 3) fun y5=>bi (bif (((y3.2:Int) != 0)||(!y5.2)) then(some true) else(bi (Laq (⟨y3.1,y5.1⟩:Kzp)) fun y11=>some ((y11:Int) != 0))) fun q7=>bif q7 then(some ((⟨(⟨false,0,0⟩:Kzo),0⟩:Kzp),9)) else(some ((⟨y3.1,y5.1⟩:Kzp),0))
def Lco(k:Nat)(s:Str):Option (Int×Bool):=
 bi (Lci k s 9) fun y1=>some (y1.1,y1.2)
def Lcp(k:Nat)(line:Str):Option (Kzq×Bool):=
 bi (Lch line) fun y1=>bif ((!y1.2)||(((y1.1.length:Int):Int) != 3)) then(some ((⟨(⟨(⟨false,0,0⟩:Kzo),0⟩:Kzp),[],0⟩:Kzq),false)) else(bi (getZ y1.1 0) fun x5=>bi (Lcn k x5) fun y7=>bi (getZ y1.1 2) fun x9=>bi (Lco k x9) fun y11=>bi (bi (getZ y1.1 1) fun x15=>bif y11.2 then(some (x15,(y7.2:Int)==0)) else(some (x15,false))) fun q13=>some ((⟨y7.1,q13.1,y11.1⟩:Kzq),q13.2))
def Lcq(k:Nat)(text:Str):Option ((List Kzq)×Int×Int):=
 bif decide (((text.length:Int):Int)>200000) then(some ([],0,2)) else(bi (Lce text) fun y3=>bi (rangeM (σ:=List Kzq) (ρ:=(List Kzq)×Int×Int) (fun i5 x7 s6=>bi (Lcp k x7) fun y16=>bif ((!y16.2)||((!y3.2)&&(((i5:Int):Int)==(wi ((y3.1.length:Int) - 1))))) then(bi (some ([],(i5:Int),9)) fun v=>some (.out v)) else(bi (apd s6 [y16.1]) fun y22=>some (.go y22))) 0 y3.1 ([]:List Kzq)) fun q=>goI q fun a10=>bi (Lbb k a10) fun y24=>bif (y24:Int) != 0 then(some ([],0,y24)) else(some (a10,0,0)))
def Lcr(line:Str):Option ((List Str)×Bool):=
 bi (Ktd line [32]) fun y1=>bi (Lcg y1 []) fun y3=>some (y1,!y3)
def Lcs(s:Str):Option (Int×Bool):=
 bi (Ktd s [46]) fun y1=>bif ((y1.length:Int):Int) != 4 then(some (0,false)) else(bi (rangeM (σ:=Int) (ρ:=Int×Bool) (fun i5 x7 s6=>bi (Kts x7) fun y16=>match y16 with | (z18,false)=>(bi (some (0,false)) fun v=>some (.out v)) | (z18,true)=>(bi (Lbl z18 0 255) fun y23=>bi (bif !y23 then(some true) else(bi (Ktl z18) fun y29=>some (!((y29:Str)==x7)))) fun q25=>bif q25 then(bi (some (0,false)) fun v=>some (.out v)) else(some (.go (IntKind.u64.wrap ((IntKind.u64.wrap (s6 * 256))+(IntKind.u64.wrap (z18)))))))) 0 y1 0) fun q=>goI q fun a10=>some (a10,true))
def Lct(s:Str)(tail:Bool):Option ((List Int)×Bool):=
 bif (s:Str)==[] then(some ([],true)) else(bi (Ktd s [58]) fun y3=>bi (rangeM (σ:=List Int) (ρ:=(List Int)×Bool) (fun i5 x7 s6=>bi (Lcs x7) fun y16=>bif ((y16.2&&tail)&&(((i5:Int):Int)==(wi ((y3.length:Int) - 1)))) then(bi (apd s6 [shrV .u64 y16.1 16,bitsV .and .u64 y16.1 65535]) fun y19=>some (.go y19)) else(bi (Lbl (x7.length:Int) 1 4) fun y22=>bi (bif !y22 then(some true) else(bi (Lbn x7 [48,49,50,51,52,53,54,55,56,57,97,98,99,100,101,102,65,66,67,68,69,70]) fun y28=>some (!y28))) fun q24=>bif q24 then(bi (some ([],false)) fun v=>some (.out v)) else(bi (Ktp x7 16 32) fun y34=>match y34 with | none=>(bi (some ([],false)) fun v=>some (.out v)) | some z36=>(bi (apd s6 [z36]) fun y41=>some (.go y41))))) 0 y3 ([]:List Int)) fun q=>goI q fun a10=>some (a10,true))
def Lcu(k:Nat)(s:Str):Option (Kzo×Int):=
 bi (Lcs s) fun y1=>bif y1.2 then(some ((⟨false,0,y1.1⟩:Kzo),0)) else(bi (Ktf s [58,58]) fun y5=>bi (Lct y5.1 (!y5.2.2)) fun y7=>bi (Lct y5.2.1 true) fun y9=>bif ((((!y7.2)||(!y9.2))||(y5.2.2&&(decide ((wi ((y7.1.length:Int)+(y9.1.length:Int)):Int)>7))))||((!y5.2.2)&&((((y7.1.length:Int):Int) != 8)||((s:Str)==[])))) then(some ((⟨false,0,0⟩:Kzo),9)) else(bi (loopM (σ:=Int×Int×Int) (ρ:=Kzo) (fun s14=>bif decide ((s14.2.2:Int)<8) then(bi (bif decide ((s14.2.2:Int)<(y7.1.length:Int)) then(bi (getZ y7.1 s14.2.2) fun x27=>some x27) else(some 0)) fun q24=>bi (bif ((decide ((wi (s14.2.2 - (wi (8 - (y9.1.length:Int)))):Int)≥0))&&y5.2.2) then(bi (getZ y9.1 (wi (s14.2.2 - (wi (8 - (y9.1.length:Int)))))) fun x33=>some x33) else(some q24)) fun q30=>bif decide ((s14.2.2:Int)<4) then(some (.go (bitsV .or .u64 (shlV .u64 s14.1 16) q30,s14.2.1,wi (s14.2.2+1)))) else(some (.go (s14.1,bitsV .or .u64 (shlV .u64 s14.2.1 16) q30,wi (s14.2.2+1))))) else(some (.out (⟨true,s14.1,s14.2.1⟩:Kzo)))) k (0,0,0)) fun q16=>some (q16,0)))
def Lcv(k:Nat)(s:Str):Option (Kzo×Int):=
 bi (Lcu k s) fun y1=>bi (bif (y1.2:Int) != 0 then(some true) else(bi (Lbz k y1.1) fun y7=>some (!((y7:Str)==s)))) fun q3=>bif q3 then(some ((⟨false,0,0⟩:Kzo),9)) else(some (y1.1,0))
def Lcw(k:Nat)(s:Str):Option (Kzp×Int):=
 bi (Ktf s [47]) fun y1=>bi (Lcv k y1.1) fun y3=>bi (Kts y1.2.1) fun y5=>match y5 with | (z7,false)=>(some ((⟨(⟨false,0,0⟩:Kzo),0⟩:Kzp),9)) | (z7,true)=>(bi (bif (((y3.2:Int) != 0)||false) then(some true) else(bi (Lbm k (⟨y3.1,z7⟩:Kzp)) fun y14=>some ((y14:Int) != 0))) fun q10=>bi (bif q10 then(some true) else(bi (Lca k (⟨y3.1,z7⟩:Kzp)) fun y20=>some (!((y20:Str)==s)))) fun q16=>bif q16 then(some ((⟨(⟨false,0,0⟩:Kzo),0⟩:Kzp),9)) else(some ((⟨y3.1,z7⟩:Kzp),0)))
def Lcx(s:Str)(most:Int):Option (Int×Bool):=
 bi (Ksz s [45]) fun y1=>bi (bif (((y1:Str)==[])||(decide (((y1.length:Int):Int)>most))) then(some true) else(bi (Lbn y1 [48,49,50,51,52,53,54,55,56,57]) fun y7=>some (!y7))) fun q3=>bif q3 then(some (0,false)) else(bi (Ktr s) fun y11=>bi (Ktl y11) fun y13=>some (y11,(y13:Str)==s))
def Lcy(k:Nat)(line:Str)(x:List Kzq):Option (Bool×(List Kzq)):=
 bi (Lcr line) fun y1=>bif ((!y1.2)||(((y1.1.length:Int):Int) != 3)) then(some (false,x)) else(bi (getZ y1.1 0) fun x5=>bi (Lcw k x5) fun y7=>bi (getZ y1.1 2) fun x9=>bi (Lcx x9 9) fun y11=>bi (getZ y1.1 1) fun x13=>bi (apd x [(⟨y7.1,x13,y11.1⟩:Kzq)]) fun y15=>some ((((y7.2:Int)==0)&&y11.2),y15))
def Lcz(k:Nat)(text:Str)(f:List Kzq):Option (Int×Bool×(List Kzq)):=
 bi (loopM (σ:=(List Kzq)×Str×Int) (ρ:=(List Kzq) ⊕ (Int×Bool×(List Kzq))) (fun s2=>bif !((s2.2.1:Str)==[]) then(bi (Ktf s2.2.1 [10]) fun y12=>bi (bif !y12.2.2 then(some (s2.1,true)) else(bi (Lcy k y12.1 s2.1) fun y18=>some (y18.2,!y18.1))) fun q14=>bif q14.2 then(bi (some (s2.2.2,false,q14.1)) fun v=>some (.out (.inr v))) else(some (.go (q14.1,y12.2.1,wi (s2.2.2+1))))) else(some (.out (.inl s2.1)))) k (f,text,0)) fun q=>orI q fun a6=>some (0,true,a6)
def Lda(k:Nat)(text:Str):Option ((List Kzq)×Int×Int):=
 bif decide (((text.length:Int):Int)>200000) then(some ([],0,2)) else(bi (Lcz k text ([]:List Kzq)) fun y3=>bif !y3.2.1 then(some ([],y3.1,9)) else(bi (Lbu k y3.2.2) fun y7=>bif (y7:Int) != 0 then(some ([],0,y7)) else(some (y3.2.2,0,0))))
def Ldb(s1:List Kzq)(s2:List Kzq):Option Bool:=
 bif ((s1.length:Int):Int) != (s2.length:Int) then(some false) else(bi (rangeM (σ:=Unit) (ρ:=Bool) (fun i3 x5 s4=>bi (getZ s2 (i3:Int)) fun x14=>bif !(((((x5.Prefix.Addr.Six:Bool)==x14.Prefix.Addr.Six)&&(((x5.Prefix.Addr.Hi:Int)==x14.Prefix.Addr.Hi)&&(((x5.Prefix.Addr.Lo:Int)==x14.Prefix.Addr.Lo)&&true)))&&(((x5.Prefix.Bits:Int)==x14.Prefix.Bits)&&true))&&(((x5.Node:Str)==x14.Node)&&(((x5.Weight:Int)==x14.Weight)&&true))) then(bi (some false) fun v=>some (.out v)) else(some (.go ()))) 0 s1 ()) fun q=>goI q fun a8=>some true)
def Ldc(k:Nat)(l:List Kzr):Option Int:=
 bif decide (((l.length:Int):Int)>500) then(some 2) else(bi (rangeM (σ:=Unit) (ρ:=Int) (fun i3 x5 s4=>bi (Lar k x5.A) fun y14=>bi (bif !y14 then(some true) else(bi (Lar k x5.v_B) fun y20=>some (!y20))) fun q16=>bif q16 then(bi (some 5) fun v=>some (.out v)) else(bif !(Op.bytesLess x5.A x5.v_B) then(bi (some 7) fun v=>some (.out v)) else(bi (Lan x5.Millis 0 1000000) fun y30=>bif y30 then(bi (some 1) fun v=>some (.out v)) else(bi (bif decide (((i3:Int):Int)>0) then(bi (getZ l (wi ((i3:Int) - 1))) fun x39=>bi (Ktj x39.A x5.A) fun y41=>bi (getZ l (wi ((i3:Int) - 1))) fun x43=>bi (Ktj x43.v_B x5.v_B) fun y45=>bi (Lau [y41,y45]) fun y47=>some (decide ((y47:Int)≥0))) else(some false)) fun q36=>bif q36 then(bi (some 7) fun v=>some (.out v)) else(some (.go ())))))) 0 l ()) fun q=>goI q fun a8=>some 0)
def Ldd(l:List Kzr):Option (List (Str×(List Kzs))):=
 bi (rangeF (σ:=List (Str×(List Kzs))) (fun i1 x3 s2=>gd ((mGet s2 x3.A).isNone) (bi (apd ([]:List Kzs) [(⟨x3.v_B,x3.Millis⟩:Kzs)]) fun y14=>gd ((mGet (mSet s2 x3.A y14) x3.v_B).isNone) (bi (apd ([]:List Kzs) [(⟨x3.A,x3.Millis⟩:Kzs)]) fun y18=>some (mSet (mSet s2 x3.A y14) x3.v_B y18)))) 0 l ([]:List (Str×(List Kzs)))) fun q4=>some q4
def Lde(a:Kzt)(b:Kzt):Option Bool:=
 some ((decide ((a.millis:Int)<b.millis))||(((a.millis:Int)==b.millis)&&(decide ((a.links:Int)<b.links))))
def Ldf(k:Nat)(steps:List (Str×(List Kzs)))(v_from:Str):Option (List (Str×Kzt)):=
 bi (loopM (σ:=(List (Str×Kzt))×(List (Str×Bool))) (ρ:=List (Str×Kzt)) (fun s2=>bi (rangeP (σ:=Str×Bool) (fun x18 s17=>bi (bif !((mGet s2.2 x18.1).getD false) then(bi (bif !s17.2 then(some true) else(bi (Lde x18.2 ((mGet s2.1 s17.1).getD (⟨0,0⟩:Kzt))) fun y58=>some y58)) fun q54=>some q54) else(some false)) fun q51=>bif q51 then(some (x18.1,true)) else(some (s17.1,s17.2))) s2.1 ([],false)) fun q22=>bif !q22.2 then(bi (some s2.1) fun v=>some (.out v)) else(bi (rangeF (σ:=List (Str×Kzt)) (fun i30 x32 s31=>bi (bif !((mGet s31 x32.to).isSome) then(some true) else(bi (Lde (⟨wi ((((mGet s31 q22.1).getD (⟨0,0⟩:Kzt)).millis)+x32.millis),wi ((((mGet s31 q22.1).getD (⟨0,0⟩:Kzt)).links)+1)⟩:Kzt) ((mGet s31 x32.to).getD (⟨0,0⟩:Kzt))) fun y45=>some y45)) fun q41=>bif q41 then(some (mSet s31 x32.to (⟨wi ((((mGet s31 q22.1).getD (⟨0,0⟩:Kzt)).millis)+x32.millis),wi ((((mGet s31 q22.1).getD (⟨0,0⟩:Kzt)).links)+1)⟩:Kzt))) else(some s31)) 0 ((mGet steps q22.1).getD []) s2.1) fun q33=>some (.go (q33,(mSet s2.2 q22.1 true))))) k ((mSet ([]:List (Str×Kzt)) v_from (⟨0,0⟩:Kzt)),([]:List (Str×Bool)))) fun v=>some v
def Ldg(k:Nat)(l:List Kzr)(a:Str)(b:Str):Option ((List Str)×Int×Int):=
 bi (Ldd l) fun y1=>bi (Ldf k y1 b) fun y3=>bif !((mGet y3 a).isSome) then(some ([],0,8)) else(bi (loopM (σ:=(List Str)×Str) (ρ:=List Str) (fun s8=>bif !((s8.2:Str)==b) then(bi (rangeF (σ:=Str) (fun i18 x20 s19=>bif (((((mGet y3 x20.to).isSome)&&((wi ((((mGet y3 x20.to).getD (⟨0,0⟩:Kzt)).millis)+x20.millis):Int)==(((mGet y3 s8.2).getD (⟨0,0⟩:Kzt)).millis)))&&((wi ((((mGet y3 x20.to).getD (⟨0,0⟩:Kzt)).links)+1):Int)==(((mGet y3 s8.2).getD (⟨0,0⟩:Kzt)).links)))&&(((s19:Str)==[])||(Op.bytesLess x20.to s19))) then(some x20.to) else(some s19)) 0 ((mGet y1 s8.2).getD []) []) fun q21=>bi (apd s8.1 [q21]) fun y31=>some (.go (y31,q21))) else(some (.out s8.1))) k ([a],a)) fun q10=>some (q10,((mGet y3 a).getD (⟨0,0⟩:Kzt)).millis,0))
def Ldh(k:Nat)(l:List Kzr)(a:Str)(b:Str):Option ((List Str)×Int×Int):=
 bi (Ldc k l) fun y1=>bif (y1:Int) != 0 then(some ([],0,y1)) else(bi (Lar k a) fun y5=>bi (bif !y5 then(some true) else(bi (Lar k b) fun y11=>some (!y11))) fun q7=>bif q7 then(some ([],0,5)) else(bi (Ldg k l a b) fun y15=>some (y15.1,y15.2.1,y15.2.2)))
def Ldi(s1:List Str)(s2:List Str):Option Bool:=
 bif ((s1.length:Int):Int) != (s2.length:Int) then(some false) else(bi (rangeM (σ:=Unit) (ρ:=Bool) (fun i3 x5 s4=>bi (getZ s2 (i3:Int)) fun x14=>bif !((x5:Str)==x14) then(bi (some false) fun v=>some (.out v)) else(some (.go ()))) 0 s1 ()) fun q=>goI q fun a8=>some true)
def Ldj(k:Nat):Option Bool:=
 bi (Ldh k [(⟨[97],[98],3⟩:Kzr)] [98] [97]) fun y1=>bi (bif (((y1.2.2:Int)==0)&&((y1.2.1:Int)==3)) then(bi (Ldi y1.1 [[98],[97]]) fun y6=>some y6) else(some false)) fun q3=>some q3
def Ldk(k:Nat)(l:List Int):Option Bool:=
 bi (Lak k (⟨l,0⟩:Kzn)) fun y1=>bi (Lbj k y1.1) fun y3=>bi (Lbu k y1.1) fun y5=>bi (bif (y3.2:Int) != y5 then(some true) else(bi (bif (y5:Int)==0 then(bi (Lcb k y1.1) fun y14=>some (!((y3.1:Str)==y14))) else(some false)) fun q11=>some q11)) fun q7=>bif (q7||(((y5:Int) != 0)&&(!((y3.1:Str)==[])))) then(some false) else(bi (Lcd k y1.2) fun y19=>bi (Lcq k y19.1) fun y21=>bi (Lda k y19.1) fun y23=>bi (bif (((y21.2.2:Int)==y23.2.2)&&((y21.2.1:Int)==y23.2.1)) then(bi (Ldb y21.1 y23.1) fun y28=>some y28) else(some false)) fun q25=>bi (bif q25 then(bi (Ldj k) fun y34=>some y34) else(some false)) fun q31=>some q31)
end
end Go.Gk
