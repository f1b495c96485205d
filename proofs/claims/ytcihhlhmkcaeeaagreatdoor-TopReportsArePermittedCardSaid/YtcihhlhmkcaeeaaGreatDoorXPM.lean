import Derived.Test.YtcihhlhmkcaeeaaGreatDoorMStrB
set_option linter.unusedVariables false
namespace Go.Gk
noncomputable section
structure Kxc where
 L:List Int
 v_at:Int
 deriving DecidableEq
structure Kxd where
 Name:Str
 Members:List Str
 deriving DecidableEq
structure Kxe where
 Six:Bool
 Hi:Int
 Lo:Int
 deriving DecidableEq
structure Kxf where
 Addr:Kxe
 Bits:Int
 deriving DecidableEq
structure Kxg where
 Name:Str
 Net:Kxf
 deriving DecidableEq
structure Kxh where
 Kind:Int
 Name:Str
 Net:Kxf
 deriving DecidableEq
structure Kxi where
 From:Int
 To:Int
 deriving DecidableEq
structure Kxj where
 What:Kxh
 Ports:Kxi
 deriving DecidableEq
structure Kxk where
 Src:List Kxh
 Dst:List Kxj
 Proto:Int
 Postures:List Str
 deriving DecidableEq
structure Kxl where
 Proto:Int
 From:Kxe
 To:Kxe
 FromPort:Int
 ToPort:Int
 deriving DecidableEq
structure Kxm where
 Flow:Kxl
 Accept:Bool
 deriving DecidableEq
structure Kxn where
 Groups:List Kxd
 Hosts:List Kxg
 Grants:List Kxk
 Tests:List Kxm
 deriving DecidableEq
structure Kxo where
 Key:Str
 User:Str
 Name:Str
 Tags:List Str
 Addrs:List Kxe
 Routes:List Kxf
 deriving DecidableEq
structure Kxp where
 Node:Str
 Posture:Str
 deriving DecidableEq
structure Kxq where
 Nodes:List Kxo
 Policy:Kxn
 Facts:List Kxp
 deriving DecidableEq
structure Kxr where
 Node:Str
 Hour:Int
 Out:Bool
 Flow:Kxl
 Packets:Int
 Bytes:Int
 deriving DecidableEq
structure Kxs where
 nodes:List Kxo
 list:List Kxr
 owners:List (Kxe×Str)
 deriving DecidableEq
structure Kxt where
 First:Kxe
 Last:Kxe
 deriving DecidableEq
structure Kxu where
 s:Kxq
 owners:List (Kxe×Int)
 meets:List (Kxp×Bool)
 src:List (List Kxt)
 dst:List (List (List Kxt))
 own:List (Str×(List Kxt))
 deriving DecidableEq
structure Kxv where
 p:Kxn
 kind:Int
 deriving DecidableEq
def Kxw(x:Int)(n:Int):Option Int:=
 bif decide ((n:Int)<1) then(some 0) else(bi (remZ x n) fun y3=>bi (bif decide ((y3:Int)<0) then(some (wi (y3+n))) else(some y3)) fun q5=>some q5)
def Kxx(s:Kxc)(n:Int):Option (Int×Kxc):=
 bif ((s.L.length:Int):Int)==0 then(bi (Kxw (wi ((wi (s.v_at+1)) * 7919)) n) fun y2=>some (y2,(⟨s.L,wi (s.v_at+1)⟩:Kxc))) else(bi (remZ (wi ((wi (s.v_at+1)) - 1)) (s.L.length:Int)) fun y5=>bi (divZ .i64 (wi ((wi (s.v_at+1)) - 1)) (s.L.length:Int)) fun y7=>bi (getZ s.L y5) fun x9=>bi (Kxw x9 1073741824) fun y11=>bi (Kxw (wi (y11+(wi (y7 * (wi (7919+y5)))))) n) fun y13=>some (y13,(⟨s.L,wi (s.v_at+1)⟩:Kxc)))
def Kxy(s:Kxc)(n:Int):Option (Bool×Kxc):=
 bi (Kxx s n) fun y1=>some ((y1.1:Int)==0,y1.2)
def Kxz(s:Kxc)(l:List Str):Option (Str×Kxc):=
 bi (Kxx s (l.length:Int)) fun y1=>bi (getZ l y1.1) fun x3=>some (x3,y1.2)
def Kya(n:Int):Option Kxe:=
 some (⟨false,0,IntKind.u64.wrap (1681915904+(IntKind.u64.wrap (n)))⟩:Kxe)
def Kyb(n:Int):Option Kxe:=
 some (⟨true,18230571291595767808,IntKind.u64.wrap (n)⟩:Kxe)
def Kyc(s:Kxc)(l:List Int):Option (Int×Kxc):=
 bi (Kxx s (l.length:Int)) fun y1=>bi (getZ l y1.1) fun x3=>some (x3,y1.2)
def Kyd(s:Kxc)(most:Int):Option ((List Kxo)×Kxc):=
 bi (subZ [[110,97],[110,98],[110,99],[110,100],[110,101]] 0 (if 5<most then 5 else most)) fun z1=>bi (rangeF (σ:=Kxc×(List Kxo)) (fun i3 x5 s4=>bi (Kxy s4.1 6) fun y14=>bif y14.1 then(some (y14.2,s4.2)) else(bi (Kxz y14.2 [x5,[98,111,120],[98,111,120],[119,101,98]]) fun y18=>bi (Kxz y18.2 [[97,110,110],[97,110,110],[98,111,98],[99,105,100],[]]) fun y20=>bi (bif (y20.1:Str)==[] then(bi (Kxx y20.2 3) fun y25=>bi (getZ [[[119,101,98]],[[100,98]],[[100,98],[119,101,98]]] y25.1) fun x27=>some (y25.2,x27)) else(some (y20.2,[]))) fun q22=>bi (Kxy q22.1 8) fun y30=>bi (bif !y30.1 then(bi (Kya (wi ((i3:Int)+1))) fun y35=>bi (apd ([]:List Kxe) [y35]) fun y37=>some y37) else(some ([]:List Kxe))) fun q32=>bi (Kxy y30.2 3) fun y40=>bi (bif y40.1 then(bi (Kyb (wi ((i3:Int)+1))) fun y45=>bi (apd q32 [y45]) fun y47=>some y47) else(some q32)) fun q42=>bi (Kxy y40.2 3) fun y50=>bi (bif y50.1 then(bi (Kyc y50.2 [8,16,24]) fun y55=>bi (apd ([]:List Kxf) [(⟨(⟨false,0,167772160⟩:Kxe),y55.1⟩:Kxf)]) fun y57=>some (y55.2,y57)) else(some (y50.2,([]:List Kxf)))) fun q52=>bi (Kxy q52.1 6) fun y60=>bi (bif y60.1 then(bi (Kxy y60.2 3) fun y65=>bi (apd q52.2 [(⟨(⟨y65.1,0,0⟩:Kxe),0⟩:Kxf)]) fun y67=>some (y65.2,y67)) else(some (y60.2,q52.2))) fun q62=>bi (apd s4.2 [(⟨x5,y20.1,y18.1,q22.2,q42,q62.2⟩:Kxo)]) fun y70=>some (q62.1,y70))) 0 z1 (s,([]:List Kxo))) fun q6=>some (q6.2,q6.1)
def Kye(s:Kxc)(more:Str):Option ((List Str)×Kxc):=
 bi (rangeF (σ:=Kxc×(List Str)) (fun i1 x3 s2=>bi (Kxy s2.1 2) fun y12=>bif y12.1 then(bi (apd s2.2 [x3]) fun y15=>some (y12.2,y15)) else(some (y12.2,s2.2))) 0 [[97,110,110],[99,105,100],more] (s,([]:List Str))) fun q4=>some (q4.2,q4.1)
def Kyf(s:Kxc)(low:Int)(high:Int):Option (Int×Kxc):=
 bif decide ((high:Int)<low) then(some (low,s)) else(bi (Kxx s (wi ((wi (high - low))+1))) fun y3=>some (wi (low+y3.1),y3.2))
def Kyg(k:Nat)(a:Kxe):Option (Int×Int×Int×Int×Int×Int×Int×Int×Int):=
 bi (loopM (σ:=Int×Int×Int×Int×Int×Int×Int×Int×Int×Int) (ρ:=Int×Int×Int×Int×Int×Int×Int×Int×Int) (fun s2=>bif decide ((s2.2.2.2.2.2.2.2.2.2:Int)<4) then(bi (shrZ .u64 a.Lo (wi (16 * s2.2.2.2.2.2.2.2.2.2))) fun y12=>bi (getZ ([s2.1,s2.2.1,s2.2.2.1,s2.2.2.2.1,s2.2.2.2.2.1,s2.2.2.2.2.2.1,s2.2.2.2.2.2.2.1,s2.2.2.2.2.2.2.2.1,s2.2.2.2.2.2.2.2.2.1]:List Int) s2.2.2.2.2.2.2.2.2.2) fun x14=>bi (shrZ .u64 a.Hi (wi (16 * s2.2.2.2.2.2.2.2.2.2))) fun y16=>bi (getZ ([updA s2.2.2.2.2.2.2.2.2.2 0 (wi (bitsV .and .u64 y12 65535)) s2.1,updA s2.2.2.2.2.2.2.2.2.2 1 (wi (bitsV .and .u64 y12 65535)) s2.2.1,updA s2.2.2.2.2.2.2.2.2.2 2 (wi (bitsV .and .u64 y12 65535)) s2.2.2.1,updA s2.2.2.2.2.2.2.2.2.2 3 (wi (bitsV .and .u64 y12 65535)) s2.2.2.2.1,updA s2.2.2.2.2.2.2.2.2.2 4 (wi (bitsV .and .u64 y12 65535)) s2.2.2.2.2.1,updA s2.2.2.2.2.2.2.2.2.2 5 (wi (bitsV .and .u64 y12 65535)) s2.2.2.2.2.2.1,updA s2.2.2.2.2.2.2.2.2.2 6 (wi (bitsV .and .u64 y12 65535)) s2.2.2.2.2.2.2.1,updA s2.2.2.2.2.2.2.2.2.2 7 (wi (bitsV .and .u64 y12 65535)) s2.2.2.2.2.2.2.2.1,updA s2.2.2.2.2.2.2.2.2.2 8 (wi (bitsV .and .u64 y12 65535)) s2.2.2.2.2.2.2.2.2.1]:List Int) (wi (4+s2.2.2.2.2.2.2.2.2.2))) fun x18=>some (.go (updA (wi (4+s2.2.2.2.2.2.2.2.2.2)) 0 (wi (bitsV .and .u64 y16 65535)) (updA s2.2.2.2.2.2.2.2.2.2 0 (wi (bitsV .and .u64 y12 65535)) s2.1),updA (wi (4+s2.2.2.2.2.2.2.2.2.2)) 1 (wi (bitsV .and .u64 y16 65535)) (updA s2.2.2.2.2.2.2.2.2.2 1 (wi (bitsV .and .u64 y12 65535)) s2.2.1),updA (wi (4+s2.2.2.2.2.2.2.2.2.2)) 2 (wi (bitsV .and .u64 y16 65535)) (updA s2.2.2.2.2.2.2.2.2.2 2 (wi (bitsV .and .u64 y12 65535)) s2.2.2.1),updA (wi (4+s2.2.2.2.2.2.2.2.2.2)) 3 (wi (bitsV .and .u64 y16 65535)) (updA s2.2.2.2.2.2.2.2.2.2 3 (wi (bitsV .and .u64 y12 65535)) s2.2.2.2.1),updA (wi (4+s2.2.2.2.2.2.2.2.2.2)) 4 (wi (bitsV .and .u64 y16 65535)) (updA s2.2.2.2.2.2.2.2.2.2 4 (wi (bitsV .and .u64 y12 65535)) s2.2.2.2.2.1),updA (wi (4+s2.2.2.2.2.2.2.2.2.2)) 5 (wi (bitsV .and .u64 y16 65535)) (updA s2.2.2.2.2.2.2.2.2.2 5 (wi (bitsV .and .u64 y12 65535)) s2.2.2.2.2.2.1),updA (wi (4+s2.2.2.2.2.2.2.2.2.2)) 6 (wi (bitsV .and .u64 y16 65535)) (updA s2.2.2.2.2.2.2.2.2.2 6 (wi (bitsV .and .u64 y12 65535)) s2.2.2.2.2.2.2.1),updA (wi (4+s2.2.2.2.2.2.2.2.2.2)) 7 (wi (bitsV .and .u64 y16 65535)) (updA s2.2.2.2.2.2.2.2.2.2 7 (wi (bitsV .and .u64 y12 65535)) s2.2.2.2.2.2.2.2.1),updA (wi (4+s2.2.2.2.2.2.2.2.2.2)) 8 (wi (bitsV .and .u64 y16 65535)) (updA s2.2.2.2.2.2.2.2.2.2 8 (wi (bitsV .and .u64 y12 65535)) s2.2.2.2.2.2.2.2.2.1),wi (s2.2.2.2.2.2.2.2.2.2+1)))) else(some (.out (s2.1,s2.2.1,s2.2.2.1,s2.2.2.2.1,s2.2.2.2.2.1,s2.2.2.2.2.2.1,s2.2.2.2.2.2.2.1,s2.2.2.2.2.2.2.2.1,s2.2.2.2.2.2.2.2.2.1)))) k (0,0,0,0,0,0,0,0,0,0)) fun q4=>bi (bif a.Six then(some 1) else(some q4.2.2.2.2.2.2.2.2)) fun q21=>some (q4.1,q4.2.1,q4.2.2.1,q4.2.2.2.1,q4.2.2.2.2.1,q4.2.2.2.2.2.1,q4.2.2.2.2.2.2.1,q4.2.2.2.2.2.2.2.1,q21)
def Kyh(a:Kxe):Option Int:=
 bif a.Six then(some 128) else(some 32)
def Kyi(k:Nat)(a:Kxe)(bits:Int):Option (Int×Int×Int×Int×Int×Int×Int×Int×Int):=
 bi (Kyg k a) fun y1=>bi (Kyh a) fun y3=>bi (gd (decide ((wi (y3 - bits))≤9223372036854775807)) (rangeG (σ:=Int×Int×Int×Int×Int×Int×Int×Int×Int) (fun i5 s6=>bi (divZ .i64 (i5:Int) 16) fun y17=>bi (getZ ([s6.1,s6.2.1,s6.2.2.1,s6.2.2.2.1,s6.2.2.2.2.1,s6.2.2.2.2.2.1,s6.2.2.2.2.2.2.1,s6.2.2.2.2.2.2.2.1,s6.2.2.2.2.2.2.2.2]:List Int) y17) fun x19=>bi (remZ (i5:Int) 16) fun y21=>bi (shlZ .i64 1 y21) fun y23=>bi (getZ ([s6.1,s6.2.1,s6.2.2.1,s6.2.2.2.1,s6.2.2.2.2.1,s6.2.2.2.2.2.1,s6.2.2.2.2.2.2.1,s6.2.2.2.2.2.2.2.1,s6.2.2.2.2.2.2.2.2]:List Int) y17) fun x25=>some (updA y17 0 (bitsV .andNot .i64 x19 y23) s6.1,updA y17 1 (bitsV .andNot .i64 x19 y23) s6.2.1,updA y17 2 (bitsV .andNot .i64 x19 y23) s6.2.2.1,updA y17 3 (bitsV .andNot .i64 x19 y23) s6.2.2.2.1,updA y17 4 (bitsV .andNot .i64 x19 y23) s6.2.2.2.2.1,updA y17 5 (bitsV .andNot .i64 x19 y23) s6.2.2.2.2.2.1,updA y17 6 (bitsV .andNot .i64 x19 y23) s6.2.2.2.2.2.2.1,updA y17 7 (bitsV .andNot .i64 x19 y23) s6.2.2.2.2.2.2.2.1,updA y17 8 (bitsV .andNot .i64 x19 y23) s6.2.2.2.2.2.2.2.2)) (wi (y3 - bits)) (y1.1,y1.2.1,y1.2.2.1,y1.2.2.2.1,y1.2.2.2.2.1,y1.2.2.2.2.2.1,y1.2.2.2.2.2.2.1,y1.2.2.2.2.2.2.2.1,y1.2.2.2.2.2.2.2.2))) fun q8=>some q8
def Kyj(k:Nat)(w:(Int×Int×Int×Int×Int×Int×Int×Int×Int)):Option Kxe:=
 bi (loopM (σ:=Kxe×Int) (ρ:=Kxe) (fun s2=>bif decide ((s2.2:Int)<4) then(bi (getZ ([w.1,w.2.1,w.2.2.1,w.2.2.2.1,w.2.2.2.2.1,w.2.2.2.2.2.1,w.2.2.2.2.2.2.1,w.2.2.2.2.2.2.2.1,w.2.2.2.2.2.2.2.2]:List Int) s2.2) fun x12=>bi (shlZ .u64 (IntKind.u64.wrap (x12)) (wi (16 * s2.2))) fun y14=>bi (getZ ([w.1,w.2.1,w.2.2.1,w.2.2.2.1,w.2.2.2.2.1,w.2.2.2.2.2.1,w.2.2.2.2.2.2.1,w.2.2.2.2.2.2.2.1,w.2.2.2.2.2.2.2.2]:List Int) (wi (4+s2.2))) fun x16=>bi (shlZ .u64 (IntKind.u64.wrap (x16)) (wi (16 * s2.2))) fun y18=>some (.go ((⟨s2.1.Six,bitsV .or .u64 s2.1.Hi y18,bitsV .or .u64 s2.1.Lo y14⟩:Kxe),wi (s2.2+1)))) else(some (.out s2.1))) k ((⟨false,0,0⟩:Kxe),0)) fun q4=>some (⟨decide ((w.2.2.2.2.2.2.2.2:Int)>0),q4.Hi,q4.Lo⟩:Kxe)
def Kyk(k:Nat)(a:Kxe)(bits:Int):Option Kxf:=
 bi (Kyi k a bits) fun y1=>bi (Kyj k y1) fun y3=>some (⟨y3,bits⟩:Kxf)
def Kyl(k:Nat)(s:Kxc)(self:Bool):Option (Kxh×Kxc):=
 bi (Kyc s [1,2,2,3,3,4,4,5,6,7,8,9]) fun y1=>bi (bif self then(bi (Kxy y1.2 5) fun y6=>some (y6.2,y6.1)) else(some (y1.2,false))) fun q3=>bif q3.2 then(some ((⟨10,[],(⟨(⟨false,0,0⟩:Kxe),0⟩:Kxf)⟩:Kxh),q3.1)) else(bi (bif (y1.1:Int)==2 then(bi (Kxz q3.1 [[97,110,110],[98,111,98],[122,101,100]]) fun y14=>some (y14.2,(⟨y1.1,y14.1,(⟨(⟨false,0,0⟩:Kxe),0⟩:Kxf)⟩:Kxh))) else(bif (y1.1:Int)==3 then(bi (Kxz q3.1 [[100,101,118],[101,110,103],[111,112,115]]) fun y18=>some (y18.2,(⟨y1.1,y18.1,(⟨(⟨false,0,0⟩:Kxe),0⟩:Kxf)⟩:Kxh))) else(bif (y1.1:Int)==4 then(bi (Kxz q3.1 [[119,101,98],[100,98],[110,111,110,101]]) fun y22=>some (y22.2,(⟨y1.1,y22.1,(⟨(⟨false,0,0⟩:Kxe),0⟩:Kxf)⟩:Kxh))) else(bif (y1.1:Int)==5 then(bi (Kxz q3.1 [[110,97],[110,98],[110,122]]) fun y26=>some (y26.2,(⟨y1.1,y26.1,(⟨(⟨false,0,0⟩:Kxe),0⟩:Kxf)⟩:Kxh))) else(bif (y1.1:Int)==6 then(bi (Kxz q3.1 [[108,97,98],[110,101,116,54]]) fun y30=>some (y30.2,(⟨y1.1,y30.1,(⟨(⟨false,0,0⟩:Kxe),0⟩:Kxf)⟩:Kxh))) else(bif (y1.1:Int)==7 then(bi (Kyc q3.1 [8,12,24]) fun y34=>bi (Kxy y34.2 3) fun y36=>bif y36.1 then(bi (Kya 0) fun y39=>bi (Kyc y36.2 [10,30,31]) fun y41=>bi (Kyk k y39 y41.1) fun y43=>some (y41.2,(⟨y1.1,[],y43⟩:Kxh))) else(some (y36.2,(⟨y1.1,[],(⟨(⟨false,0,167772160⟩:Kxe),y34.1⟩:Kxf)⟩:Kxh)))) else(some (q3.1,(⟨y1.1,[],(⟨(⟨false,0,0⟩:Kxe),0⟩:Kxf)⟩:Kxh))))))))) fun q11=>some (q11.2,q11.1))
def Kym(s:Kxc):Option (Kxi×Kxc):=
 bi (Kxx s 5) fun y1=>bi (bif (y1.1:Int)==0 then(some ((y1.1:Int)==0)) else(some ((y1.1:Int)==1))) fun q3=>bif q3 then(some ((⟨0,65535⟩:Kxi),y1.2)) else(bif (y1.1:Int)==2 then(bi (Kyc y1.2 [80,90,443]) fun y10=>some ((⟨80,y10.1⟩:Kxi),y10.2)) else(bif (y1.1:Int)==3 then(bi (Kyc y1.2 [22,443,65535,0]) fun y14=>some ((⟨y14.1,y14.1⟩:Kxi),y14.2)) else(bi (Kyc y1.2 [0,81,100]) fun y17=>bi (Kyf y17.2 y17.1 200) fun y19=>some ((⟨y17.1,y19.1⟩:Kxi),y19.2))))
def Kyn(k:Nat)(s:Kxc):Option (Kxk×Kxc):=
 bi (Kyc s [0,0,6,6,17,1,47]) fun y1=>bi (Kyc y1.2 [1,1,2]) fun y3=>bi (gd (decide (y3.1≤9223372036854775807)) (rangeG (σ:=Kxc×(List Kxh)) (fun i5 s6=>bi (Kyl k s6.1 false) fun y17=>bi (apd s6.2 [y17.1]) fun y19=>some (y17.2,y19)) y3.1 (y3.2,([]:List Kxh)))) fun q8=>bi (Kyc q8.1 [1,1,2]) fun y21=>bi (gd (decide (y21.1≤9223372036854775807)) (rangeG (σ:=Kxc×(List Kxj)) (fun i23 s24=>bi (Kyl k s24.1 true) fun y35=>bi (Kym y35.2) fun y37=>bi (bif ((((y1.1:Int) != 0)&&((y1.1:Int) != 6))&&((y1.1:Int) != 17)) then(some (⟨y35.1,(⟨0,65535⟩:Kxi)⟩:Kxj)) else(some (⟨y35.1,y37.1⟩:Kxj))) fun q39=>bi (apd s24.2 [q39]) fun y43=>some (y37.2,y43)) y21.1 (y21.2,([]:List Kxj)))) fun q26=>bi (Kxy q26.1 4) fun y45=>bi (bif y45.1 then(bi (Kxx y45.2 3) fun y50=>bi (getZ [[[102,114,101,115,104]],[[115,101,97,108,101,100]],[[102,114,101,115,104],[115,101,97,108,101,100]]] y50.1) fun x52=>some (y50.2,x52)) else(some (y45.2,[]))) fun q47=>some ((⟨q8.2,q26.2,y1.1,q47.2⟩:Kxk),q47.1)
def Kyo(s:Kxc):Option (Kxl×Kxc):=
 bi (Kyc s [6,6,6,17,1,47]) fun y1=>bi (Kyf y1.2 0 5) fun y3=>bi (Kya y3.1) fun y5=>bi (Kyf y3.2 0 5) fun y7=>bi (Kya y7.1) fun y9=>bi (Kxy y7.2 4) fun y11=>bi (bif y11.1 then(bi (Kyc y11.2 [0,5,65536]) fun y16=>some (y16.2,(⟨y1.1,y5,(⟨false,0,IntKind.u64.wrap (167772160+(IntKind.u64.wrap (y16.1)))⟩:Kxe),0,0⟩:Kxl))) else(some (y11.2,(⟨y1.1,y5,y9,0,0⟩:Kxl)))) fun q13=>bi (Kxy q13.1 5) fun y19=>bi (bif y19.1 then(bi (Kyf y19.2 0 5) fun y24=>bi (Kyb y24.1) fun y26=>bi (Kyf y24.2 0 5) fun y28=>bi (Kyb y28.1) fun y30=>some (y28.2,(⟨q13.2.Proto,y26,y30,q13.2.FromPort,q13.2.ToPort⟩:Kxl))) else(some (y19.2,q13.2))) fun q21=>bi (bif (((q21.2.Proto:Int)==6)||((q21.2.Proto:Int)==17)) then(bi (Kyc q21.1 [0,5000]) fun y36=>bi (Kyc y36.2 [0,22,79,80,85,90,91,100,443,65535]) fun y38=>some (y38.2,(⟨q21.2.Proto,q21.2.From,q21.2.To,y36.1,y38.1⟩:Kxl))) else(some (q21.1,q21.2))) fun q33=>some (q33.2,q33.1)
def Kyp(k:Nat)(s:Kxc)(most:Int):Option (Kxn×Kxc):=
 bi (Kye s [98,111,98]) fun y1=>bi (Kye y1.2 [64,100,101,118]) fun y3=>bi (Kye y3.2 [64,101,110,103]) fun y5=>bi (Kyc y5.2 [8,16,31]) fun y7=>bi (Kyc y7.2 [8,64,127]) fun y9=>bi (Kyf y9.2 0 most) fun y11=>bi (gd (decide (y11.1≤9223372036854775807)) (rangeG (σ:=Kxc×(List Kxk)) (fun i13 s14=>bi (Kyn k s14.1) fun y25=>bi (apd s14.2 [y25.1]) fun y27=>some (y25.2,y27)) y11.1 (y11.2,([]:List Kxk)))) fun q16=>bi (Kyc q16.1 [0,0,1,2]) fun y29=>bi (gd (decide (y29.1≤9223372036854775807)) (rangeG (σ:=Kxc×(List Kxm)) (fun i31 s32=>bi (Kyo s32.1) fun y43=>bi (Kxy y43.2 2) fun y45=>bi (apd s32.2 [(⟨y43.1,y45.1⟩:Kxm)]) fun y47=>some (y45.2,y47)) y29.1 (y29.2,([]:List Kxm)))) fun q34=>some ((⟨[(⟨[100,101,118],y1.1⟩:Kxd),(⟨[101,110,103],y3.1⟩:Kxd),(⟨[111,112,115],y5.1⟩:Kxd)],[(⟨[108,97,98],(⟨(⟨false,0,167772160⟩:Kxe),y7.1⟩:Kxf)⟩:Kxg),(⟨[110,101,116,54],(⟨(⟨true,18230571291595767808,0⟩:Kxe),y9.1⟩:Kxf)⟩:Kxg)],q16.2,q34.2⟩:Kxn),q34.1)
def Kyq(s:Kxc)(nodes:List Kxo):Option ((List Kxp)×Kxc):=
 bi (rangeF (σ:=Kxc×(List Kxp)) (fun i1 x3 s2=>bi (rangeF (σ:=Kxc×(List Kxp)) (fun i12 x14 s13=>bi (Kxy s13.1 3) fun y23=>bif y23.1 then(bi (apd s13.2 [(⟨x3.Key,x14⟩:Kxp)]) fun y26=>some (y23.2,y26)) else(some (y23.2,s13.2))) 0 [[102,114,101,115,104],[115,101,97,108,101,100]] (s2.1,s2.2)) fun q15=>some (q15.1,q15.2)) 0 nodes (s,([]:List Kxp))) fun q4=>bi (Kxy q4.1 20) fun y29=>bi (bif y29.1 then(bi (Kxz y29.2 [[110,97],[110,111,110,101]]) fun y34=>bi (Kxz y34.2 [[102,114,101,115,104],[],[65]]) fun y36=>bi (apd q4.2 [(⟨y34.1,y36.1⟩:Kxp)]) fun y38=>some (y36.2,y38)) else(some (y29.2,q4.2))) fun q31=>some (q31.2,q31.1)
def Kyr(s:List Kxp):Option (List Kxp):=
 bi (apd ([]:List Kxp) s) fun y1=>some y1
def Kys(n:Int)(low:Int)(high:Int):Option Bool:=
 some ((decide ((low:Int)≤n))&&(decide ((n:Int)≤high)))
def Kyt(s:Str)(v_some:Str):Option Bool:=
 bi (Krb s v_some) fun y1=>some ((y1:Str)==[])
def Kyu(s:Str):Option Bool:=
 bi (Kys (s.length:Int) 1 40) fun y1=>bi (bif y1 then(bi (subZ s 0 1) fun z6=>bi (Kyt z6 [97,98,99,100,101,102,103,104,105,106,107,108,109,110,111,112,113,114,115,116,117,118,119,120,121,122]) fun y8=>some y8) else(some false)) fun q3=>bi (bif q3 then(bi (Kyt s [97,98,99,100,101,102,103,104,105,106,107,108,109,110,111,112,113,114,115,116,117,118,119,120,121,122,48,49,50,51,52,53,54,55,56,57,45,95]) fun y14=>some y14) else(some false)) fun q11=>some q11
def Kyv(a:Kxe):Option Int:=
 bif ((!a.Six)&&((decide ((a.Hi:Int)>0))||(decide ((a.Lo:Int)>4294967295)))) then(some 3) else(some 0)
def Kyw(k:Nat)(p:Kxf):Option Int:=
 bi (Kyv p.Addr) fun y1=>bif (y1:Int) != 0 then(some y1) else(bi (Kyh p.Addr) fun y5=>bi (Kys p.Bits 0 y5) fun y7=>bif !y7 then(some 1) else(bi (Kyi k p.Addr p.Bits) fun y11=>bi (Kyg k p.Addr) fun y13=>bif !decide (([y11.1,y11.2.1,y11.2.2.1,y11.2.2.2.1,y11.2.2.2.2.1,y11.2.2.2.2.2.1,y11.2.2.2.2.2.2.1,y11.2.2.2.2.2.2.2.1,y11.2.2.2.2.2.2.2.2]:List Int)=([y13.1,y13.2.1,y13.2.2.1,y13.2.2.2.1,y13.2.2.2.2.1,y13.2.2.2.2.2.1,y13.2.2.2.2.2.2.1,y13.2.2.2.2.2.2.2.1,y13.2.2.2.2.2.2.2.2]:List Int)) then(some 3) else(some 0)))
def Kyx(s:List Kxf)(v:Kxf):Option Int:=
 bi (rangeM (σ:=Unit) (ρ:=Int) (fun i1 x3 s2=>bif ((((v.Addr.Six:Bool)==x3.Addr.Six)&&(((v.Addr.Hi:Int)==x3.Addr.Hi)&&(((v.Addr.Lo:Int)==x3.Addr.Lo)&&true)))&&(((v.Bits:Int)==x3.Bits)&&true)) then(bi (some (i1:Int)) fun v=>some (.out v)) else(some (.go ()))) 0 s ()) fun q=>goI q fun a6=>some (-1)
def Kyy(s:List Kxf)(v:Kxf):Option Bool:=
 bi (Kyx s v) fun y1=>some (decide ((y1:Int)≥0))
def Kyz(k:Nat)(n:Kxo)(last:Str)(had:List (Kxe×Bool)):Option (Int×(List (Kxe×Bool))):=
 bi (Kyu n.Key) fun y1=>bi (bif !y1 then(some true) else(bi (Kyu n.Name) fun y7=>some (!y7))) fun q3=>bif q3 then(some (5,had)) else(bif (Op.bytesLess n.Key last||(n.Key:Str)==last) then(some (7,had)) else(bi (bif !((n.User:Str)==[]) then(bi (Kyu n.User) fun y16=>some (!y16)) else(some false)) fun q13=>bif q13 then(some (5,had)) else(bif decide (((n.Tags.length:Int):Int)>10) then(some (2,had)) else(bi (rangeM (σ:=Unit) (ρ:=Int×(List (Kxe×Bool))) (fun i23 x25 s24=>bi (Kyu x25) fun y34=>bif !y34 then(bi (some (5,had)) fun v=>some (.out v)) else(bi (bif decide (((i23:Int):Int)>0) then(bi (getZ n.Tags (wi ((i23:Int) - 1))) fun x43=>some (Op.bytesLess x25 x43||(x25:Str)==x43)) else(some false)) fun q40=>bif q40 then(bi (some (7,had)) fun v=>some (.out v)) else(some (.go ())))) 0 n.Tags ()) fun q=>goI q fun a28=>bif ((n.User:Str)==[]:Bool)==(((n.Tags.length:Int):Int)==0) then(some (3,had)) else(bif decide (((n.Addrs.length:Int):Int)>4) then(some (2,had)) else(bi (rangeM (σ:=List (Kxe×Bool)) (ρ:=Int×(List (Kxe×Bool))) (fun i54 x56 s55=>bi (Kyv x56) fun y65=>bif (y65:Int) != 0 then(bi (some (y65,s55)) fun v=>some (.out v)) else(bif ((mGet s55 x56).getD false) then(bi (some (6,s55)) fun v=>some (.out v)) else(some (.go (mSet s55 x56 true))))) 0 n.Addrs had) fun q=>goI q fun a59=>bif decide (((n.Routes.length:Int):Int)>20) then(some (2,a59)) else(bi (rangeM (σ:=Unit) (ρ:=Int×(List (Kxe×Bool))) (fun i77 x79 s78=>bi (Kyw k x79) fun y88=>bif (y88:Int) != 0 then(bi (some (y88,a59)) fun v=>some (.out v)) else(bi (subZ n.Routes 0 (i77:Int)) fun z94=>bi (Kyy z94 x79) fun y96=>bif y96 then(bi (some (6,a59)) fun v=>some (.out v)) else(some (.go ())))) 0 n.Routes ()) fun q=>goI q fun a82=>some (0,a59))))))))
def Kza(k:Nat)(l:List Kxo):Option Int:=
 bif decide (((l.length:Int):Int)>500) then(some 2) else(bi (rangeM (σ:=(List (Kxe×Bool))×Str) (ρ:=Int) (fun i3 x5 s4=>bi (Kyz k x5 s4.2 s4.1) fun y14=>bif (y14.1:Int) != 0 then(bi (some y14.1) fun v=>some (.out v)) else(some (.go (y14.2,x5.Key)))) 0 l (([]:List (Kxe×Bool)),[])) fun q=>goI q fun a8=>some 0)
def Kzb(n:Kxo)(x:Str):Option Bool:=
 some ((n.Key:Str)==x)
def Kzc(s:List Kxo)(f:Str):Option Int:=
 bi (rangeM (σ:=Unit) (ρ:=Int) (fun i1 x3 s2=>bi (Kzb x3 f) fun y12=>bif y12 then(bi (some (i1:Int)) fun v=>some (.out v)) else(some (.go ()))) 0 s ()) fun q=>goI q fun a6=>some (-1)
def Kzd(l:List Kxo)(key:Str):Option Int:=
 bi (Kzc l key) fun y1=>some y1
def Kze(x:Str):Option Bool:=
 some (!((x:Str)==x))
def Kzf(x:Str)(y:Str):Option Int:=
 bi (Kze x) fun y1=>bi (Kze y) fun y3=>bif y1 then(bif y3 then(some 0) else(some (-1))) else(bif y3 then(some 1) else(bif Op.bytesLess x y then(some (-1)) else(bif !(Op.bytesLess x y||(x:Str)==y) then(some 1) else(some 0))))
def Kzg(s1:List Str)(s2:List Str):Option Int:=
 bi (rangeM (σ:=Unit) (ρ:=Int) (fun i1 x4 s3=>bif decide (((i1:Int):Int)≥(s2.length:Int)) then(bi (some 1) fun v=>some (.out v)) else(bi (getZ s2 (i1:Int)) fun x17=>bi (Kzf x4 x17) fun y19=>bif (y19:Int) != 0 then(bi (some y19) fun v=>some (.out v)) else(some (.go ())))) 0 s1 ()) fun q=>goI q fun a7=>bif decide (((s1.length:Int):Int)<(s2.length:Int)) then(some (-1)) else(some 0)
def Kzh(k:Nat)(nodes:List Kxo)(l:List Kxp):Option Int:=
 bi (Kza k nodes) fun y1=>bif (y1:Int) != 0 then(some y1) else(bif decide (((l.length:Int):Int)>2000) then(some 2) else(bi (rangeM (σ:=Unit) (ρ:=Int) (fun i7 x9 s8=>bi (Kzd nodes x9.Node) fun y18=>bif decide ((y18:Int)<0) then(bi (some 8) fun v=>some (.out v)) else(bi (Kyu x9.Posture) fun y24=>bif !y24 then(bi (some 5) fun v=>some (.out v)) else(bi (bif decide (((i7:Int):Int)>0) then(bi (getZ l (wi ((i7:Int) - 1))) fun x33=>bi (getZ l (wi ((i7:Int) - 1))) fun x35=>bi (Kzg [x33.Node,x35.Posture] [x9.Node,x9.Posture]) fun y37=>some (decide ((y37:Int)≥0))) else(some false)) fun q30=>bif q30 then(bi (some 7) fun v=>some (.out v)) else(some (.go ()))))) 0 l ()) fun q=>goI q fun a12=>some 0))
def Kzi(k:Nat)(s:Kxc)(nodes:Int)(grants:Int):Option (Kxq×Kxc):=
 bi (Kyd s nodes) fun y1=>bi (Kyp k y1.2 grants) fun y3=>bi (Kyq y3.2 y1.1) fun y5=>bi (rangeF (σ:=List Kxp) (fun i7 x9 s8=>bi (Kyr s8) fun y18=>bi (apd y18 [x9]) fun y20=>bi (Kzh k y1.1 y20) fun y22=>bif (y22:Int)==0 then(some y20) else(some s8)) 0 y5.1 []) fun q10=>some ((⟨y1.1,y3.1,q10⟩:Kxq),y5.2)
def Kzj(n:Int):Option Int:=
 bif decide ((n:Int)<0) then(some (-1)) else(bif decide ((n:Int)>0) then(some 1) else(some 0))
def Kzk(k:Nat)(w:(Int×Int×Int×Int×Int×Int×Int×Int×Int))(v:(Int×Int×Int×Int×Int×Int×Int×Int×Int)):Option Int:=
 bi (loopM (σ:=Int) (ρ:=Unit ⊕ Int) (fun s2=>bif decide ((s2:Int)≥0) then(bi (getZ ([w.1,w.2.1,w.2.2.1,w.2.2.2.1,w.2.2.2.2.1,w.2.2.2.2.2.1,w.2.2.2.2.2.2.1,w.2.2.2.2.2.2.2.1,w.2.2.2.2.2.2.2.2]:List Int) s2) fun x12=>bi (getZ ([v.1,v.2.1,v.2.2.1,v.2.2.2.1,v.2.2.2.2.1,v.2.2.2.2.2.1,v.2.2.2.2.2.2.1,v.2.2.2.2.2.2.2.1,v.2.2.2.2.2.2.2.2]:List Int) s2) fun x14=>bif (x12:Int) != x14 then(bi (getZ ([w.1,w.2.1,w.2.2.1,w.2.2.2.1,w.2.2.2.2.1,w.2.2.2.2.2.1,w.2.2.2.2.2.2.1,w.2.2.2.2.2.2.2.1,w.2.2.2.2.2.2.2.2]:List Int) s2) fun x17=>bi (getZ ([v.1,v.2.1,v.2.2.1,v.2.2.2.1,v.2.2.2.2.1,v.2.2.2.2.2.1,v.2.2.2.2.2.2.1,v.2.2.2.2.2.2.2.1,v.2.2.2.2.2.2.2.2]:List Int) s2) fun x19=>bi (Kzj (wi (x17 - x19))) fun y21=>bi (some y21) fun v=>some (.out (.inr v))) else(some (.go (wi (s2 - 1))))) else(some (.out (.inl ())))) k 8) fun q=>orI q fun a6=>some 0
def Kzl(k:Nat)(a:Kxe)(b:Kxe):Option Int:=
 bi (Kyg k a) fun y1=>bi (Kyg k b) fun y3=>bi (Kzk k y1 y3) fun y5=>some y5
def Kzm(x:Int):Option Bool:=
 some ((x:Int) != x)
def Kzn(x:Int)(y:Int):Option Int:=
 bi (Kzm x) fun y1=>bi (Kzm y) fun y3=>bif y1 then(bif y3 then(some 0) else(some (-1))) else(bif y3 then(some 1) else(bif decide ((x:Int)<y) then(some (-1)) else(bif decide ((x:Int)>y) then(some 1) else(some 0))))
def Kzo(s1:List Int)(s2:List Int):Option Int:=
 bi (rangeM (σ:=Unit) (ρ:=Int) (fun i1 x4 s3=>bif decide (((i1:Int):Int)≥(s2.length:Int)) then(bi (some 1) fun v=>some (.out v)) else(bi (getZ s2 (i1:Int)) fun x17=>bi (Kzn x4 x17) fun y19=>bif (y19:Int) != 0 then(bi (some y19) fun v=>some (.out v)) else(some (.go ())))) 0 s1 ()) fun q=>goI q fun a7=>bif decide (((s1.length:Int):Int)<(s2.length:Int)) then(some (-1)) else(some 0)
def Kzp(k:Nat)(a:Kxl)(b:Kxl):Option Int:=
 bif (a.Proto:Int) != b.Proto then(bi (Kzj (wi (a.Proto - b.Proto))) fun y2=>some y2) else(bif !(((a.From.Six:Bool)==b.From.Six)&&(((a.From.Hi:Int)==b.From.Hi)&&(((a.From.Lo:Int)==b.From.Lo)&&true))) then(bi (Kzl k a.From b.From) fun y6=>some y6) else(bif !(((a.To.Six:Bool)==b.To.Six)&&(((a.To.Hi:Int)==b.To.Hi)&&(((a.To.Lo:Int)==b.To.Lo)&&true))) then(bi (Kzl k a.To b.To) fun y10=>some y10) else(bi (Kzo [a.FromPort,a.ToPort] [b.FromPort,b.ToPort]) fun y13=>some y13)))
def Kzq(k:Nat)(a:Kxr)(b:Kxr):Option Int:=
 bif (a.Hour:Int) != b.Hour then(bi (Kzj (wi (a.Hour - b.Hour))) fun y2=>some y2) else(bif !((a.Node:Str)==b.Node) then(bi (Kri a.Node b.Node) fun y6=>some y6) else(bif ((!((a.Out:Bool)==b.Out))&&b.Out) then(some (-1)) else(bif !((a.Out:Bool)==b.Out) then(some 1) else(bi (Kzp k a.Flow b.Flow) fun y13=>some y13))))
def Kzr(k:Nat)(data:List Kxr)(a:Int)(b:Int):Option (List Kxr):=
 bi (loopM (σ:=(List Kxr)×Int) (ρ:=List Kxr) (fun s2=>bif decide ((s2.2:Int)<b) then(bi (loopM (σ:=(List Kxr)×Int) (ρ:=List Kxr) (fun s13=>bi (bif decide ((s13.2:Int)>a) then(bi (getZ s13.1 s13.2) fun x25=>bi (getZ s13.1 (wi (s13.2 - 1))) fun x28=>bi (Kzq k x25 x28) fun y31=>some (decide ((y31:Int)<0))) else(some false)) fun q22=>bif q22 then(bi (getZ s13.1 (wi (s13.2 - 1))) fun x35=>bi (getZ s13.1 s13.2) fun x38=>bi (getZ s13.1 s13.2) fun x41=>bi (getZ s13.1 (wi (s13.2 - 1))) fun x44=>bi (getZ (s13.1.set s13.2.toNat x35) (((wi (s13.2 - 1)).toNat:Nat):Int)) fun x47=>some (.go ((s13.1.set s13.2.toNat x35).set ((wi (s13.2 - 1)).toNat) x38,wi (s13.2 - 1)))) else(some (.out s13.1))) k (s2.1,s2.2)) fun q15=>some (.go (q15,wi (s2.2+1)))) else(some (.out s2.1))) k (data,wi (a+1))) fun q4=>some q4
def Kzs(k:Nat)(data:List Kxr)(a:Int)(b:Int)(n:Int):Option (List Kxr):=
 bi (loopM (σ:=(List Kxr)×Int) (ρ:=List Kxr) (fun s2=>bif decide ((s2.2:Int)<n) then(bi (getZ s2.1 (wi (b+s2.2))) fun x12=>bi (getZ s2.1 (wi (a+s2.2))) fun x15=>bi (getZ s2.1 (wi (a+s2.2))) fun x18=>bi (getZ s2.1 (wi (b+s2.2))) fun x21=>bi (getZ (s2.1.set ((wi (a+s2.2)).toNat) x12) (((wi (b+s2.2)).toNat:Nat):Int)) fun x24=>some (.go ((s2.1.set ((wi (a+s2.2)).toNat) x12).set ((wi (b+s2.2)).toNat) x15,wi (s2.2+1)))) else(some (.out s2.1))) k (data,0)) fun q4=>some q4
def Kzt(k:Nat)(data:List Kxr)(a:Int)(m:Int)(b:Int):Option (List Kxr):=
 bi (loopM (σ:=(List Kxr)×Int×Int) (ρ:=(List Kxr)×Int) (fun s2=>bif (s2.2.1:Int) != s2.2.2 then(bif decide ((s2.2.1:Int)>s2.2.2) then(bi (Kzs k s2.1 (wi (m - s2.2.1)) m s2.2.2) fun y13=>gd (decide (y13.length=s2.1.length)) (some (.go (y13,wi (s2.2.1 - s2.2.2),s2.2.2)))) else(bi (Kzs k s2.1 (wi (m - s2.2.1)) (wi ((wi (m+s2.2.2)) - s2.2.1)) s2.2.1) fun y18=>gd (decide (y18.length=s2.1.length)) (some (.go (y18,s2.2.1,wi (s2.2.2 - s2.2.1)))))) else(some (.out (s2.1,s2.2.1)))) k (data,wi (m - a),wi (b - m))) fun q4=>bi (Kzs k q4.1 (wi (m - q4.2)) m q4.2) fun y23=>some y23
def Kzu:Nat→(List Kxr)→Int→Int→Int→Option (List Kxr)
 | 0,_,_,_,_=>none
 | k+1,data,a,m,b=>bif (wi (m - a):Int)==1 then(bi (loopM (σ:=Int×Int) (ρ:=Int) (fun s3=>bif decide ((s3.1:Int)<s3.2) then(bi (getZ data (wi (shrV .u64 (IntKind.u64.wrap (wi (s3.1+s3.2))) 1))) fun x13=>bi (getZ data a) fun x16=>bi (Kzq k x13 x16) fun y19=>bif decide ((y19:Int)<0) then(some (.go (wi ((wi (shrV .u64 (IntKind.u64.wrap (wi (s3.1+s3.2))) 1))+1),s3.2))) else(some (.go (s3.1,wi (shrV .u64 (IntKind.u64.wrap (wi (s3.1+s3.2))) 1))))) else(some (.out s3.1))) k (m,b)) fun q5=>bi (loopM (σ:=(List Kxr)×Int) (ρ:=List Kxr) (fun s25=>bif decide ((s25.2:Int)<(wi (q5 - 1))) then(bi (getZ s25.1 (wi (s25.2+1))) fun x35=>bi (getZ s25.1 s25.2) fun x38=>bi (getZ s25.1 s25.2) fun x41=>bi (getZ s25.1 (wi (s25.2+1))) fun x44=>bi (getZ (s25.1.set s25.2.toNat x35) (((wi (s25.2+1)).toNat:Nat):Int)) fun x47=>some (.go ((s25.1.set s25.2.toNat x35).set ((wi (s25.2+1)).toNat) x38,wi (s25.2+1)))) else(some (.out s25.1))) k (data,a)) fun q27=>some q27) else(bif (wi (b - m):Int)==1 then(bi (loopM (σ:=Int×Int) (ρ:=Int) (fun s54=>bif decide ((s54.1:Int)<s54.2) then(bi (getZ data m) fun x64=>bi (getZ data (wi (shrV .u64 (IntKind.u64.wrap (wi (s54.1+s54.2))) 1))) fun x67=>bi (Kzq k x64 x67) fun y70=>bif !(decide ((y70:Int)<0)) then(some (.go (wi ((wi (shrV .u64 (IntKind.u64.wrap (wi (s54.1+s54.2))) 1))+1),s54.2))) else(some (.go (s54.1,wi (shrV .u64 (IntKind.u64.wrap (wi (s54.1+s54.2))) 1))))) else(some (.out s54.1))) k (a,m)) fun q56=>bi (loopM (σ:=(List Kxr)×Int) (ρ:=List Kxr) (fun s76=>bif decide ((s76.2:Int)>q56) then(bi (getZ s76.1 (wi (s76.2 - 1))) fun x86=>bi (getZ s76.1 s76.2) fun x89=>bi (getZ s76.1 s76.2) fun x92=>bi (getZ s76.1 (wi (s76.2 - 1))) fun x95=>bi (getZ (s76.1.set s76.2.toNat x86) (((wi (s76.2 - 1)).toNat:Nat):Int)) fun x98=>some (.go ((s76.1.set s76.2.toNat x86).set ((wi (s76.2 - 1)).toNat) x89,wi (s76.2 - 1)))) else(some (.out s76.1))) k (data,m)) fun q78=>some q78) else(bi (bif decide ((m:Int)>(wi (shrV .u64 (IntKind.u64.wrap (wi (a+b))) 1))) then(some (wi ((wi ((wi (shrV .u64 (IntKind.u64.wrap (wi (a+b))) 1))+m)) - b),wi (shrV .u64 (IntKind.u64.wrap (wi (a+b))) 1))) else(some (a,m))) fun q103=>bi (loopM (σ:=Int×Int) (ρ:=Int) (fun s108=>bif decide ((s108.1:Int)<s108.2) then(bi (getZ data (wi ((wi ((wi ((wi (shrV .u64 (IntKind.u64.wrap (wi (a+b))) 1))+m)) - 1)) - (wi (shrV .u64 (IntKind.u64.wrap (wi (s108.1+s108.2))) 1))))) fun x118=>bi (getZ data (wi (shrV .u64 (IntKind.u64.wrap (wi (s108.1+s108.2))) 1))) fun x121=>bi (Kzq k x118 x121) fun y124=>bif !(decide ((y124:Int)<0)) then(some (.go (wi ((wi (shrV .u64 (IntKind.u64.wrap (wi (s108.1+s108.2))) 1))+1),s108.2))) else(some (.go (s108.1,wi (shrV .u64 (IntKind.u64.wrap (wi (s108.1+s108.2))) 1))))) else(some (.out s108.1))) k (q103.1,q103.2)) fun q110=>bi (bif ((decide ((q110:Int)<m))&&(decide ((m:Int)<(wi ((wi ((wi (shrV .u64 (IntKind.u64.wrap (wi (a+b))) 1))+m)) - q110))))) then(bi (Kzt k data q110 m (wi ((wi ((wi (shrV .u64 (IntKind.u64.wrap (wi (a+b))) 1))+m)) - q110))) fun y132=>gd (decide (y132.length=data.length)) (some y132)) else(some data)) fun q129=>bi (bif ((decide ((a:Int)<q110))&&(decide ((q110:Int)<(wi (shrV .u64 (IntKind.u64.wrap (wi (a+b))) 1))))) then(bi (Kzu k q129 a q110 (wi (shrV .u64 (IntKind.u64.wrap (wi (a+b))) 1))) fun y140=>gd (decide (y140.length=q129.length)) (some y140)) else(some q129)) fun q137=>bif ((decide ((wi (shrV .u64 (IntKind.u64.wrap (wi (a+b))) 1):Int)<(wi ((wi ((wi (shrV .u64 (IntKind.u64.wrap (wi (a+b))) 1))+m)) - q110))))&&(decide ((wi ((wi ((wi (shrV .u64 (IntKind.u64.wrap (wi (a+b))) 1))+m)) - q110):Int)<b))) then(bi (Kzu k q137 (wi (shrV .u64 (IntKind.u64.wrap (wi (a+b))) 1)) (wi ((wi ((wi (shrV .u64 (IntKind.u64.wrap (wi (a+b))) 1))+m)) - q110)) b) fun y146=>some y146) else(some q137)))
def Kzv(k:Nat)(data:List Kxr)(n:Int):Option (List Kxr):=
 bi (loopM (σ:=(List Kxr)×Int×Int) (ρ:=(List Kxr)×Int) (fun s2=>bif decide ((s2.2.2:Int)≤n) then(bi (Kzr k s2.1 s2.2.1 s2.2.2) fun y12=>gd (decide (y12.length=s2.1.length)) (some (.go (y12,s2.2.2,wi (s2.2.2+20))))) else(some (.out (s2.1,s2.2.1)))) k (data,0,20)) fun q4=>bi (Kzr k q4.1 q4.2 n) fun y17=>gd (decide (y17.length=q4.1.length)) (bi (loopM (σ:=(List Kxr)×Int) (ρ:=List Kxr) (fun s22=>bif decide ((s22.2:Int)<n) then(bi (loopM (σ:=(List Kxr)×Int×Int) (ρ:=(List Kxr)×Int) (fun s33=>bif decide ((s33.2.2:Int)≤n) then(bi (Kzu k s33.1 s33.2.1 (wi (s33.2.1+s22.2)) s33.2.2) fun y43=>gd (decide (y43.length=s33.1.length)) (some (.go (y43,s33.2.2,wi (s33.2.2+(wi (2 * s22.2))))))) else(some (.out (s33.1,s33.2.1)))) k (s22.1,0,wi (2 * s22.2))) fun q35=>bif decide ((wi (q35.2+s22.2):Int)<n) then(bi (Kzu k q35.1 q35.2 (wi (q35.2+s22.2)) n) fun y49=>gd (decide (y49.length=q35.1.length)) (some (.go (y49,wi (s22.2 * 2))))) else(some (.go (q35.1,wi (s22.2 * 2))))) else(some (.out s22.1))) k (y17,20)) fun q24=>some q24)
def Kzw(k:Nat)(x:List Kxr):Option (List Kxr):=
 bi (Kzv k x (x.length:Int)) fun y1=>some y1
def Kzx(k:Nat)(a:Kxr)(b:Kxr):Option Bool:=
 bi (Kzq k a b) fun y1=>some ((y1:Int)==0)
def Kzy(k:Nat)(s:List Kxr):Option (List Kxr):=
 bif decide (((s.length:Int):Int)<2) then(some s) else(bi (loopM (σ:=Int) (ρ:=Unit ⊕ (List Kxr)) (fun s4=>bif decide ((s4:Int)<(s.length:Int)) then(bi (getZ s s4) fun x14=>bi (getZ s (wi (s4 - 1))) fun x17=>bi (Kzx k x14 x17) fun y20=>bif y20 then(bi (subZ s s4 (s.length:Int)) fun z23=>bi (loopM (σ:=(List Kxr)×Int×Int) (ρ:=(List Kxr)×Int) (fun s26=>bif decide ((s26.2.2:Int)<(z23.length:Int)) then(bi (getZ z23 s26.2.2) fun x36=>bi (getZ s26.1 (((s4.toNat+s26.2.2.toNat):Nat):Int)) fun x38=>bi (getZ z23 (wi (s26.2.2 - 1))) fun x41=>bi (getZ s26.1 (((s4.toNat+(wi (s26.2.2 - 1)).toNat):Nat):Int)) fun x43=>bi (Kzx k x38 x43) fun y46=>bif !y46 then(bi (getZ z23 s26.2.2) fun x49=>bi (getZ s26.1 (((s4.toNat+s26.2.2.toNat):Nat):Int)) fun x51=>bi (getZ s26.1 s26.2.1) fun x54=>some (.go (s26.1.set s26.2.1.toNat x51,wi (s26.2.1+1),wi (s26.2.2+1)))) else(some (.go (s26.1,s26.2.1,wi (s26.2.2+1))))) else(some (.out (s26.1,s26.2.1)))) k (s,s4,1)) fun q28=>bi (subZ q28.1 q28.2 (q28.1.length:Int)) fun z59=>bi (some (q28.1.take q28.2.toNat)) fun v=>some (.out (.inr v))) else(some (.go (wi (s4+1))))) else(some (.out (.inl ())))) k 1) fun q=>orI q fun a8=>some s)
def Kzz(s:Kxc)(low:Int)(high:Int):Option (Int×Kxc):=
 bi (Kxy s 12) fun y1=>bif y1.1 then(bi (Kyc y1.2 [wi (low - 1),wi (high+1),low,high,-1099511627776,1099511627776]) fun y4=>some (y4.1,y4.2)) else(bi (Kyf y1.2 low high) fun y7=>some (y7.1,y7.2))
def Laa(s:Kxc):Option (Kxe×Kxc):=
 bi (Kxx s 6) fun y1=>bif (y1.1:Int)==0 then(bi (Kxx y1.2 5) fun y4=>bi (getZ [0,18230571291595767808,2306139568115548160,9223372036854775808,18446744073709551615] y4.1) fun x6=>bi (Kxx y4.2 5) fun y8=>bi (getZ [0,1,2,4294967296,18446744073709551615] y8.1) fun x10=>some ((⟨true,x6,x10⟩:Kxe),y8.2)) else(bif (y1.1:Int)==1 then(bi (Kxx y1.2 5) fun y14=>bi (getZ [0,1,4294967295,2130706433,3232235521] y14.1) fun x16=>some ((⟨false,0,x16⟩:Kxe),y14.2)) else(bif (y1.1:Int)==2 then(bi (Kyf y1.2 0 16777216) fun y20=>bi (remZ (IntKind.u64.wrap ((IntKind.u64.wrap (y20.1)) * 251)) 4294967296) fun y22=>some ((⟨false,0,y22⟩:Kxe),y20.2)) else(bi (Kyf y1.2 0 20) fun y25=>some ((⟨false,0,IntKind.u64.wrap (167772160+(IntKind.u64.wrap (y25.1)))⟩:Kxe),y25.2))))
def Lab(s:Kxc):Option (Kxe×Kxc):=
 bi (Laa s) fun y1=>bi (Kxy y1.2 15) fun y3=>bif y3.1 then(bi (Kxx y3.2 2) fun y6=>bi (Kxx y6.2 3) fun y8=>bi (getZ [4294967296,5,1099511627776] y8.1) fun x10=>some ((⟨false,IntKind.u64.wrap (y6.1),x10⟩:Kxe),y8.2)) else(some (y1.1,y3.2))
def Lac(s:Kxc):Option (Kxl×Kxc):=
 bi (Kyo s) fun y1=>bi (Kxy y1.2 15) fun y3=>bi (bif y3.1 then(bi (Kxx y3.2 4) fun y8=>bif (y8.1:Int)==0 then(bi (Kzz y8.2 1 255) fun y11=>some (y11.2,(⟨y11.1,y1.1.From,y1.1.To,y1.1.FromPort,y1.1.ToPort⟩:Kxl))) else(bif (y8.1:Int)==1 then(bi (Lab y8.2) fun y15=>some (y15.2,(⟨y1.1.Proto,y15.1,y1.1.To,y1.1.FromPort,y1.1.ToPort⟩:Kxl))) else(bif (y8.1:Int)==2 then(bi (Kzz y8.2 0 65535) fun y19=>some (y19.2,(⟨y1.1.Proto,y1.1.From,y1.1.To,y1.1.FromPort,y19.1⟩:Kxl))) else(bi (Kzz y8.2 0 65535) fun y22=>some (y22.2,(⟨y1.1.Proto,y1.1.From,y1.1.To,y22.1,y1.1.ToPort⟩:Kxl)))))) else(some (y3.2,y1.1))) fun q5=>some (q5.2,q5.1)
def Lad(k:Nat)(s:Kxc)(many:Int):Option ((List Kxr)×Kxc):=
 bi (gd (decide (many≤9223372036854775807)) (rangeG (σ:=Kxc×(List Kxr)) (fun i1 s2=>bi (Kyc s2.1 [6,6,6,17,1]) fun y13=>bi (Kyf y13.2 1 4) fun y15=>bi (Kya y15.1) fun y17=>bi (Kyf y15.2 1 4) fun y19=>bi (Kya y19.1) fun y21=>bi (Kxy y19.2 6) fun y23=>bi (bif y23.1 then(bi (Kyf y23.2 0 3) fun y28=>some (y28.2,(⟨y13.1,y17,(⟨false,0,IntKind.u64.wrap (167772160+(IntKind.u64.wrap (y28.1)))⟩:Kxe),0,0⟩:Kxl))) else(some (y23.2,(⟨y13.1,y17,y21,0,0⟩:Kxl)))) fun q25=>bi (bif (q25.2.Proto:Int) != 1 then(bi (Kyc q25.1 [9,9,10]) fun y34=>bi (Kyc y34.2 [80,80,443,22,23]) fun y36=>some (y36.2,(⟨q25.2.Proto,q25.2.From,q25.2.To,y34.1,y36.1⟩:Kxl))) else(some (q25.1,q25.2))) fun q31=>bi (Kxz q31.1 [[110,97],[110,98],[110,99],[110,100]]) fun y39=>bi (Kyc y39.2 [0,0,1,1,2,5,23,24,30,50,720]) fun y41=>bi (Kxy y41.2 2) fun y43=>bi (Kyc y43.2 [1,2,10,100]) fun y45=>bi (Kyc y45.2 [0,50,100,110,1000,1000000000,1000000001]) fun y47=>bi (Kxy y47.2 5) fun y49=>bi (bif !y49.1 then(bi (bif y43.1 then(some q31.2.From) else(some q31.2.To)) fun q54=>bif ((decide ((IntKind.u64.wrap (q54.Lo - 1681915904):Int)≥1))&&(decide ((IntKind.u64.wrap (q54.Lo - 1681915904):Int)≤4))) then(bi (getZ [[],[110,97],[110,98],[110,99],[110,100]] (IntKind.u64.wrap (q54.Lo - 1681915904))) fun x59=>some x59) else(some y39.1)) else(some y39.1)) fun q51=>bi (apd s2.2 [(⟨q51,y41.1,y43.1,q31.2,y45.1,y47.1⟩:Kxr)]) fun y63=>bi (Kxy y49.2 2) fun y65=>bif y65.1 then(bi (bif !y43.1 then(some q31.2.From) else(some q31.2.To)) fun q68=>bi (bif ((decide ((IntKind.u64.wrap (q68.Lo - 1681915904):Int)≥1))&&(decide ((IntKind.u64.wrap (q68.Lo - 1681915904):Int)≤4))) then(bi (getZ [[],[110,97],[110,98],[110,99],[110,100]] (IntKind.u64.wrap (q68.Lo - 1681915904))) fun x75=>some x75) else(some q51)) fun q72=>bi (Kyc y65.2 [0,0,-1,-5,1]) fun y78=>bi (Kyc y78.2 [0,-50,-1,20]) fun y80=>bi (apd y63 [(⟨q72,y41.1,!y43.1,q31.2,(if (wi (y45.1+y78.1))>1 then wi (y45.1+y78.1) else 1),(if (wi (y47.1+y80.1))>0 then wi (y47.1+y80.1) else 0)⟩:Kxr)]) fun y82=>some (y80.2,y82)) else(some (y65.2,y63))) many (s,([]:List Kxr)))) fun q4=>bi (Kzw k q4.2) fun y85=>gd (decide (y85.length=q4.2.length)) (bi (Kzy k y85) fun y89=>bi (bif decide (((y89.length:Int):Int)>0) then(bi (Kxy q4.1 15) fun y94=>some (y94.2,y94.1)) else(some (q4.1,false))) fun q91=>bi (bif q91.2 then(bi (Kxx q91.1 (y89.length:Int)) fun y100=>bi (getZ y89 y100.1) fun x102=>bi (Kxx y100.2 5) fun y105=>bif (y105.1:Int)==0 then(bi (Kxz y105.2 [[],[65],[110,97]]) fun y108=>some (y108.2,y89.set y100.1.toNat (⟨y108.1,x102.Hour,x102.Out,x102.Flow,x102.Packets,x102.Bytes⟩:Kxr))) else(bif (y105.1:Int)==1 then(bi (Kzz y105.2 0 96023) fun y112=>some (y112.2,y89.set y100.1.toNat (⟨x102.Node,y112.1,x102.Out,x102.Flow,x102.Packets,x102.Bytes⟩:Kxr))) else(bif (y105.1:Int)==2 then(bi (Lac y105.2) fun y116=>some (y116.2,y89.set y100.1.toNat (⟨x102.Node,x102.Hour,x102.Out,y116.1,x102.Packets,x102.Bytes⟩:Kxr))) else(bif (y105.1:Int)==3 then(bi (Kzz y105.2 1 1000000000000) fun y120=>some (y120.2,y89.set y100.1.toNat (⟨x102.Node,x102.Hour,x102.Out,x102.Flow,y120.1,x102.Bytes⟩:Kxr))) else(bi (Kzz y105.2 0 1000000000000) fun y123=>some (y123.2,y89.set y100.1.toNat (⟨x102.Node,x102.Hour,x102.Out,x102.Flow,x102.Packets,y123.1⟩:Kxr))))))) else(some (q91.1,y89))) fun q97=>some (q97.2,q97.1))
def Lae(k:Nat)(s:Str):Option Bool:=
 bi (loopM (σ:=Int) (ρ:=Unit ⊕ Bool) (fun s2=>bif decide ((s2:Int)<(s.length:Int)) then(bi (getZ s s2) fun c12=>bif !(((decide (((c12.toNat:Int):Int)≥97))&&(decide (((c12.toNat:Int):Int)≤122)))||((decide ((s2:Int)>0))&&((((decide (((c12.toNat:Int):Int)≥48))&&(decide (((c12.toNat:Int):Int)≤57)))||(((c12.toNat:Int):Int)==45))||(((c12.toNat:Int):Int)==95)))) then(bi (some false) fun v=>some (.out (.inr v))) else(some (.go (wi (s2+1))))) else(some (.out (.inl ())))) k 0) fun q=>orI q fun a6=>some ((!((s:Str)==[]))&&(decide (((s.length:Int):Int)≤40)))
def Laf(s:List Str)(v:Str):Option Int:=
 bi (rangeM (σ:=Unit) (ρ:=Int) (fun i1 x3 s2=>bif (v:Str)==x3 then(bi (some (i1:Int)) fun v=>some (.out v)) else(some (.go ()))) 0 s ()) fun q=>goI q fun a6=>some (-1)
def Lag(s:List Str)(v:Str):Option Bool:=
 bi (Laf s v) fun y1=>some (decide ((y1:Int)≥0))
def Lah(v_g:Kxd)(n:Str):Option Int:=
 bi (Kri v_g.Name n) fun y1=>some y1
def Lai(k:Nat)(x:List Kxd)(target:Str):Option (Int×Bool):=
 bi (loopM (σ:=Int×Int) (ρ:=Int) (fun s2=>bif decide ((s2.1:Int)<s2.2) then(bi (getZ x (wi (shrV .u64 (IntKind.u64.wrap (wi (s2.1+s2.2))) 1))) fun x12=>bi (Lah x12 target) fun y14=>bif decide ((y14:Int)<0) then(some (.go (wi ((wi (shrV .u64 (IntKind.u64.wrap (wi (s2.1+s2.2))) 1))+1),s2.2))) else(some (.go (s2.1,wi (shrV .u64 (IntKind.u64.wrap (wi (s2.1+s2.2))) 1))))) else(some (.out s2.1))) k (0,(x.length:Int))) fun q4=>bi (bif decide ((q4:Int)<(x.length:Int)) then(bi (getZ x q4) fun x22=>bi (Lah x22 target) fun y24=>some ((y24:Int)==0)) else(some false)) fun q19=>some (q4,q19)
def Laj(k:Nat)(p:Kxn)(name:Str):Option (Int×Bool):=
 bi (Lai k p.Groups name) fun y1=>some (y1.1,y1.2)
def Lak(k:Nat)(p:Kxn)(i:Int):Option (List Int):=
 bi (getZ p.Groups i) fun x1=>bi (rangeF (σ:=List Int) (fun i3 x5 s4=>bi (Kqz x5 [64]) fun y14=>bif y14.2 then(bi (Laj k p y14.1) fun y17=>bif y17.2 then(bi (apd s4 [y17.1]) fun y20=>some y20) else(some s4)) else(some s4)) 0 x1.Members ([]:List Int)) fun q6=>some q6
def Lal(k:Nat)(p:Kxn)(i:Int):Option (List (Int×Bool)):=
 bi (loopM (σ:=(List (Int×Bool))×(List Int)) (ρ:=(List (Int×Bool))×(List Int)) (fun s2=>bif decide (((s2.2.length:Int):Int)>0) then(bi (getZ s2.2 0) fun x12=>bi (Lak k p x12) fun y15=>bi (rangeF (σ:=(List (Int×Bool))×(List Int)) (fun i17 x19 s18=>bif !((mGet s18.1 x19).getD false) then(bi (apd s18.2 [x19]) fun y29=>some ((mSet s18.1 x19 true),y29)) else(some (s18.1,s18.2))) 0 y15 (s2.1,s2.2)) fun q20=>bi (subZ q20.2 1 (q20.2.length:Int)) fun z32=>some (.go (q20.1,z32))) else(some (.out (s2.1,s2.2)))) k (([]:List (Int×Bool)),[i])) fun q4=>some q4.1
def Lam(k:Nat)(p:Kxn):Option Int:=
 bif decide (((p.Groups.length:Int):Int)>50) then(some 2) else(bi (rangeM (σ:=Unit) (ρ:=Int) (fun i3 x5 s4=>bi (Lae k x5.Name) fun y14=>bif !y14 then(bi (some 5) fun v=>some (.out v)) else(bi (bif decide (((i3:Int):Int)>0) then(bi (getZ p.Groups (wi ((i3:Int) - 1))) fun x23=>some (Op.bytesLess x5.Name x23.Name||(x5.Name:Str)==x23.Name)) else(some false)) fun q20=>bif q20 then(bi (some 7) fun v=>some (.out v)) else(bif decide (((x5.Members.length:Int):Int)>100) then(bi (some 2) fun v=>some (.out v)) else(bi (rangeM (σ:=Unit) (ρ:=LS Unit Int) (fun i34 x36 s35=>bi (Kqy x36 [64]) fun y45=>bi (Lae k y45) fun y47=>bif !y47 then(bi (bi (some 5) fun v=>some (.out v)) fun v=>some (.out v)) else(bi (subZ x5.Members 0 (i34:Int)) fun z55=>bi (Lag z55 x36) fun y57=>bif y57 then(bi (bi (some 6) fun v=>some (.out v)) fun v=>some (.out v)) else(some (.go ())))) 0 x5.Members ()) fun q=>goI q fun a39=>some (.go ()))))) 0 p.Groups ()) fun q=>goI q fun a8=>bi (rangeM (σ:=Unit) (ρ:=Int) (fun i65 x67 s66=>bi (rangeM (σ:=Unit) (ρ:=LS Unit Int) (fun i76 x78 s77=>bi (Kqz x78 [64]) fun y87=>bif y87.2 then(bi (Laj k p y87.1) fun y90=>bif !y90.2 then(bi (bi (some 8) fun v=>some (.out v)) fun v=>some (.out v)) else(some (.go ()))) else(some (.go ()))) 0 x67.Members ()) fun q=>goI q fun a81=>some (.go ())) 0 p.Groups ()) fun q=>goI q fun a70=>bi (gd (decide ((p.Groups.length:Int)≤9223372036854775807)) (rangeI (σ:=Unit) (ρ:=Int) (fun i99 s100=>bi (Lal k p (i99:Int)) fun y111=>bif ((mGet y111 (i99:Int)).getD false) then(bi (some 14) fun v=>some (.out v)) else(some (.go ()))) (p.Groups.length:Int) ())) fun q=>goI q fun a104=>some 0)
def Lan(a:Kxe):Option Int:=
 bif ((!a.Six)&&(((a.Hi:Int) != 0)||(decide ((a.Lo:Int)≥4294967296)))) then(some 3) else(some 0)
def Lao(a:Kxe):Option Int:=
 bif a.Six then(some 128) else(some 32)
def Lap(n:Int)(low:Int)(high:Int):Option Bool:=
 some ((decide ((n:Int)<low))||(decide ((n:Int)>high)))
def Laq(n:Int):Option (Int×Int):=
 bif decide ((n:Int)≥128) then(some (18446744073709551615,18446744073709551615)) else(bif decide ((n:Int)>64) then(bi (shlZ .u64 1 (wi (n - 64))) fun y4=>some (IntKind.u64.wrap (y4 - 1),18446744073709551615)) else(bif (n:Int)==64 then(some (0,18446744073709551615)) else(bi (shlZ .u64 1 n) fun y9=>some (0,IntKind.u64.wrap (y9 - 1)))))
def Lar(a:Kxe)(n:Int):Option Kxe:=
 bi (Lao a) fun y1=>bi (Laq (wi (y1 - n))) fun y3=>some (⟨a.Six,bitsV .andNot .u64 a.Hi y3.1,bitsV .andNot .u64 a.Lo y3.2⟩:Kxe)
def Las(p:Kxf):Option Int:=
 bi (Lan p.Addr) fun y1=>bif (y1:Int) != 0 then(some 3) else(bi (Lao p.Addr) fun y5=>bi (Lap p.Bits 0 y5) fun y7=>bif y7 then(some 1) else(bi (Lar p.Addr p.Bits) fun y11=>bif !(((y11.Six:Bool)==p.Addr.Six)&&(((y11.Hi:Int)==p.Addr.Hi)&&(((y11.Lo:Int)==p.Addr.Lo)&&true))) then(some 3) else(some 0)))
def Lat(k:Nat)(l:List Kxg):Option Int:=
 bif decide (((l.length:Int):Int)>100) then(some 2) else(bi (rangeM (σ:=Unit) (ρ:=Int) (fun i3 x5 s4=>bi (Lae k x5.Name) fun y14=>bif !y14 then(bi (some 5) fun v=>some (.out v)) else(bi (bif decide (((i3:Int):Int)>0) then(bi (getZ l (wi ((i3:Int) - 1))) fun x23=>some (Op.bytesLess x5.Name x23.Name||(x5.Name:Str)==x23.Name)) else(some false)) fun q20=>bif q20 then(bi (some 7) fun v=>some (.out v)) else(bi (Las x5.Net) fun y30=>bif (y30:Int) != 0 then(bi (some y30) fun v=>some (.out v)) else(some (.go ()))))) 0 l ()) fun q=>goI q fun a8=>some 0)
def Lau(v_h:Kxg)(n:Str):Option Int:=
 bi (Kri v_h.Name n) fun y1=>some y1
def Lav(k:Nat)(x:List Kxg)(target:Str):Option (Int×Bool):=
 bi (loopM (σ:=Int×Int) (ρ:=Int) (fun s2=>bif decide ((s2.1:Int)<s2.2) then(bi (getZ x (wi (shrV .u64 (IntKind.u64.wrap (wi (s2.1+s2.2))) 1))) fun x12=>bi (Lau x12 target) fun y14=>bif decide ((y14:Int)<0) then(some (.go (wi ((wi (shrV .u64 (IntKind.u64.wrap (wi (s2.1+s2.2))) 1))+1),s2.2))) else(some (.go (s2.1,wi (shrV .u64 (IntKind.u64.wrap (wi (s2.1+s2.2))) 1))))) else(some (.out s2.1))) k (0,(x.length:Int))) fun q4=>bi (bif decide ((q4:Int)<(x.length:Int)) then(bi (getZ x q4) fun x22=>bi (Lau x22 target) fun y24=>some ((y24:Int)==0)) else(some false)) fun q19=>some (q4,q19)
def Law(k:Nat)(p:Kxn)(name:Str):Option (Int×Bool):=
 bi (Lav k p.Hosts name) fun y1=>some (y1.1,y1.2)
def Lax(k:Nat)(p:Kxn)(w:Kxh):Option Int:=
 bi (Lap w.Kind 2 6) fun y1=>bi (Lap w.Kind 1 10) fun y3=>bif y3 then(some 4) else(bif (((!(!y1))&&(!((w.Name:Str)==[])))||(((w.Kind:Int) != 7)&&(!((((w.Net.Addr.Six:Bool)==false)&&(((w.Net.Addr.Hi:Int)==0)&&(((w.Net.Addr.Lo:Int)==0)&&true)))&&(((w.Net.Bits:Int)==0)&&true))))) then(some 3) else(bi (bif !y1 then(bi (Lae k w.Name) fun y12=>some (!y12)) else(some false)) fun q9=>bif q9 then(some 5) else(bi (bif (w.Kind:Int)==3 then(bi (Laj k p w.Name) fun y21=>some (.inl y21.2)) else(bif (w.Kind:Int)==6 then(bi (Law k p w.Name) fun y25=>some (.inl y25.2)) else(bif (w.Kind:Int)==7 then(bi (Las w.Net) fun y29=>bi (some y29) fun v=>some (.inr v)) else(some (.inl true)))):Option (Bool ⊕ Int)) fun q=>orI q fun a19=>bif !a19 then(some 8) else(some 0))))
def Laz  : Option Kxi:=
 some (⟨0,65535⟩:Kxi)
def Lba(proto:Int):Option Bool:=
 some (((proto:Int)==6)||((proto:Int)==17))
def Lbb(k:Nat)(l:List Str):Option Int:=
 bi (rangeM (σ:=Unit) (ρ:=Int) (fun i1 x3 s2=>bi (Lae k x3) fun y12=>bif !y12 then(bi (some 5) fun v=>some (.out v)) else(bi (bif decide (((i1:Int):Int)>0) then(bi (getZ l (wi ((i1:Int) - 1))) fun x21=>some (Op.bytesLess x3 x21||(x3:Str)==x21)) else(some false)) fun q18=>bif q18 then(bi (some 7) fun v=>some (.out v)) else(some (.go ())))) 0 l ()) fun q=>goI q fun a6=>some 0
def Lbc(k:Nat)(p:Kxn)(v_g:Kxk):Option Int:=
 bif ((((v_g.Src.length:Int):Int)==0)||(((v_g.Dst.length:Int):Int)==0)) then(some 3) else(bif ((decide (((v_g.Src.length:Int):Int)>20))||(decide (((v_g.Dst.length:Int):Int)>20))) then(some 2) else(bi (rangeM (σ:=Unit) (ρ:=Int) (fun i5 x7 s6=>bi (Lax k p x7) fun y16=>bif (y16:Int) != 0 then(bi (some y16) fun v=>some (.out v)) else(bif (x7.Kind:Int)==10 then(bi (some 4) fun v=>some (.out v)) else(some (.go ())))) 0 v_g.Src ()) fun q=>goI q fun a10=>bi (rangeM (σ:=Bool) (ρ:=Int) (fun i26 x28 s27=>bi (Lax k p x28.What) fun y37=>bif (y37:Int) != 0 then(bi (some y37) fun v=>some (.out v)) else(bi (Lap x28.Ports.From 0 x28.Ports.To) fun y43=>bif (y43||(decide ((x28.Ports.To:Int)>65535))) then(bi (some 1) fun v=>some (.out v)) else(bi (bif s27 then(bi Laz fun y52=>some (((x28.Ports.From:Int)==y52.From)&&(((x28.Ports.To:Int)==y52.To)&&true))) else(some false)) fun q49=>some (.go q49)))) 0 v_g.Dst true) fun q=>goI q fun a31=>bi (Lap v_g.Proto 0 255) fun y55=>bif y55 then(some 1) else(bi (bif (v_g.Proto:Int) != 0 then(bi (Lba v_g.Proto) fun y62=>some (!y62)) else(some false)) fun q59=>bif (q59&&(!a31)) then(some 16) else(bi (Lbb k v_g.Postures) fun y67=>bif (y67:Int) != 0 then(some y67) else(bif decide (((v_g.Postures.length:Int):Int)>20) then(some 2) else(some 0))))))
def Lbd(k:Nat)(f:Kxl):Option Int:=
 bi (Lap f.Proto 1 255) fun y1=>bif y1 then(some 1) else(bi (loopM (σ:=Int) (ρ:=Unit ⊕ Int) (fun s6=>bif decide ((s6:Int)<2) then(bi (getZ ([f.From,f.To]:List Kxe) s6) fun x16=>bi (Lan x16) fun y18=>bif (y18:Int) != 0 then(bi (some y18) fun v=>some (.out (.inr v))) else(some (.go (wi (s6+1))))) else(some (.out (.inl ())))) k 0) fun q=>orI q fun a10=>bif !((f.From.Six:Bool)==f.To.Six) then(some 10) else(bi (loopM (σ:=Int) (ρ:=Unit ⊕ Int) (fun s28=>bif decide ((s28:Int)<2) then(bi (getZ ([f.FromPort,f.ToPort]:List Int) s28) fun x38=>bi (Lap x38 0 65535) fun y40=>bi (bif y40 then(some true) else(bi (bif (x38:Int) != 0 then(bi (Lba f.Proto) fun y49=>some (!y49)) else(some false)) fun q46=>some q46)) fun q42=>bif q42 then(bi (some 1) fun v=>some (.out (.inr v))) else(some (.go (wi (s28+1))))) else(some (.out (.inl ())))) k 0) fun q=>orI q fun a32=>some 0))
def Lbe(k:Nat)(p:Kxn):Option Int:=
 bi (Lam k p) fun y1=>bif (y1:Int) != 0 then(some y1) else(bi (Lat k p.Hosts) fun y5=>bif (y5:Int) != 0 then(some y5) else(bif decide (((p.Grants.length:Int):Int)>100) then(some 2) else(bi (rangeM (σ:=Unit) (ρ:=Int) (fun i11 x13 s12=>bi (Lbc k p x13) fun y22=>bif (y22:Int) != 0 then(bi (some y22) fun v=>some (.out v)) else(some (.go ()))) 0 p.Grants ()) fun q=>goI q fun a16=>bif decide (((p.Tests.length:Int):Int)>100) then(some 2) else(bi (rangeM (σ:=Unit) (ρ:=Int) (fun i30 x32 s31=>bi (Lbd k x32.Flow) fun y41=>bif (y41:Int) != 0 then(bi (some y41) fun v=>some (.out v)) else(some (.go ()))) 0 p.Tests ()) fun q=>goI q fun a35=>some 0))))
def Lbf(k:Nat)(n:Kxo)(seen:List (Kxe×Bool)):Option (Int×(List (Kxe×Bool))):=
 bi (bif !((n.User:Str)==[]) then(bi (Lae k n.User) fun y4=>some (!y4)) else(some false)) fun q1=>bif q1 then(some (5,seen)) else(bif decide (((n.Tags.length:Int):Int)>10) then(some (2,seen)) else(bi (Lbb k n.Tags) fun y11=>bif (y11:Int) != 0 then(some (y11,seen)) else(bif ((n.User:Str)==[]:Bool)==(((n.Tags.length:Int):Int)==0) then(some (3,seen)) else(bif decide (((n.Addrs.length:Int):Int)>4) then(some (2,seen)) else(bi (rangeM (σ:=List (Kxe×Bool)) (ρ:=Int×(List (Kxe×Bool))) (fun i19 x21 s20=>bi (Lan x21) fun y30=>bif (y30:Int) != 0 then(bi (some (y30,s20)) fun v=>some (.out v)) else(bif ((mGet s20 x21).getD false) then(bi (some (6,s20)) fun v=>some (.out v)) else(some (.go (mSet s20 x21 true))))) 0 n.Addrs seen) fun q=>goI q fun a24=>bif decide (((n.Routes.length:Int):Int)>20) then(some (2,a24)) else(bi (rangeM (σ:=Unit) (ρ:=Int×(List (Kxe×Bool))) (fun i42 x44 s43=>bi (Las x44) fun y53=>bif (y53:Int) != 0 then(bi (some (y53,a24)) fun v=>some (.out v)) else(bi (subZ n.Routes 0 (i42:Int)) fun z59=>bi (Kyy z59 x44) fun y61=>bif y61 then(bi (some (6,a24)) fun v=>some (.out v)) else(some (.go ())))) 0 n.Routes ()) fun q=>goI q fun a47=>some (0,a24)))))))
def Lbg(k:Nat)(l:List Kxo):Option Int:=
 bif decide (((l.length:Int):Int)>500) then(some 2) else(bi (rangeM (σ:=List (Kxe×Bool)) (ρ:=Int) (fun i3 x5 s4=>bi (Lae k x5.Key) fun y14=>bi (bif !y14 then(some true) else(bi (Lae k x5.Name) fun y20=>some (!y20))) fun q16=>bif q16 then(bi (some 5) fun v=>some (.out v)) else(bi (bif decide (((i3:Int):Int)>0) then(bi (getZ l (wi ((i3:Int) - 1))) fun x29=>some (Op.bytesLess x5.Key x29.Key||(x5.Key:Str)==x29.Key)) else(some false)) fun q26=>bif q26 then(bi (some 7) fun v=>some (.out v)) else(bi (Lbf k x5 s4) fun y36=>bif (y36.1:Int) != 0 then(bi (some y36.1) fun v=>some (.out v)) else(some (.go y36.2))))) 0 l ([]:List (Kxe×Bool))) fun q=>goI q fun a8=>some 0)
def Lbh(n:Kxo)(v_k:Str):Option Int:=
 bi (Kri n.Key v_k) fun y1=>some y1
def Lbi(k:Nat)(x:List Kxo)(target:Str):Option (Int×Bool):=
 bi (loopM (σ:=Int×Int) (ρ:=Int) (fun s2=>bif decide ((s2.1:Int)<s2.2) then(bi (getZ x (wi (shrV .u64 (IntKind.u64.wrap (wi (s2.1+s2.2))) 1))) fun x12=>bi (Lbh x12 target) fun y14=>bif decide ((y14:Int)<0) then(some (.go (wi ((wi (shrV .u64 (IntKind.u64.wrap (wi (s2.1+s2.2))) 1))+1),s2.2))) else(some (.go (s2.1,wi (shrV .u64 (IntKind.u64.wrap (wi (s2.1+s2.2))) 1))))) else(some (.out s2.1))) k (0,(x.length:Int))) fun q4=>bi (bif decide ((q4:Int)<(x.length:Int)) then(bi (getZ x q4) fun x22=>bi (Lbh x22 target) fun y24=>some ((y24:Int)==0)) else(some false)) fun q19=>some (q4,q19)
def Lbj(k:Nat)(l:List Kxo)(key:Str):Option (Int×Bool):=
 bi (Lbi k l key) fun y1=>some (y1.1,y1.2)
def Lbk(k:Nat)(nodes:List Kxo)(l:List Kxp):Option Int:=
 bi (Lbg k nodes) fun y1=>bif (y1:Int) != 0 then(some y1) else(bif decide (((l.length:Int):Int)>2000) then(some 2) else(bi (rangeM (σ:=Unit) (ρ:=Int) (fun i7 x9 s8=>bi (Lbj k nodes x9.Node) fun y18=>bif !y18.2 then(bi (some 8) fun v=>some (.out v)) else(bi (Lae k x9.Posture) fun y24=>bif !y24 then(bi (some 5) fun v=>some (.out v)) else(bi (bif decide (((i7:Int):Int)>0) then(bi (getZ l (wi ((i7:Int) - 1))) fun x33=>bif Op.bytesLess x9.Node x33.Node then(some true) else(bi (getZ l (wi ((i7:Int) - 1))) fun x37=>bif (x9.Node:Str)==x37.Node then(bi (getZ l (wi ((i7:Int) - 1))) fun x40=>some (Op.bytesLess x9.Posture x40.Posture||(x9.Posture:Str)==x40.Posture)) else(some false))) else(some false)) fun q30=>bif q30 then(bi (some 7) fun v=>some (.out v)) else(some (.go ()))))) 0 l ()) fun q=>goI q fun a12=>some 0))
def Lbl(k:Nat)(s:Kxq):Option Int:=
 bi (Lbe k s.Policy) fun y1=>bif (y1:Int) != 0 then(some y1) else(bi (Lbk k s.Nodes s.Facts) fun y5=>some y5)
def Lbm(a:Bool)(b:Bool):Option Int:=
 bif (a:Bool)==b then(some 0) else(bif b then(some (-1)) else(some 1))
def Lbn(x:Int):Option Bool:=
 some ((x:Int) != x)
def Lbo(x:Int)(y:Int):Option Int:=
 bi (Lbn x) fun y1=>bi (Lbn y) fun y3=>bif y1 then(bif y3 then(some 0) else(some (-1))) else(bif y3 then(some 1) else(bif decide ((x:Int)<y) then(some (-1)) else(bif decide ((x:Int)>y) then(some 1) else(some 0))))
def Lbp(vals:List Int):Option Int:=
 bi (rangeM (σ:=Unit) (ρ:=Int) (fun i1 x3 s2=>bif (x3:Int) != 0 then(bi (some x3) fun v=>some (.out v)) else(some (.go ()))) 0 vals ()) fun q=>goI q fun a6=>some 0
def Lbq(a:Kxe)(b:Kxe):Option Int:=
 bif !((a.Six:Bool)==b.Six) then(bif b.Six then(some (-1)) else(some 1)) else(bi (Lbo a.Hi b.Hi) fun y5=>bi (Lbo a.Lo b.Lo) fun y7=>bi (Lbp [y5,y7]) fun y9=>some y9)
def Lbr(a:Kxl)(b:Kxl):Option Int:=
 bi (Kzn a.Proto b.Proto) fun y1=>bi (Lbq a.From b.From) fun y3=>bi (Lbq a.To b.To) fun y5=>bi (Kzn a.FromPort b.FromPort) fun y7=>bi (Kzn a.ToPort b.ToPort) fun y9=>bi (Lbp [y1,y3,y5,y7,y9]) fun y11=>some y11
def Lbs(a:Kxr)(b:Kxr):Option Int:=
 bi (Kzn a.Hour b.Hour) fun y1=>bi (Kri a.Node b.Node) fun y3=>bi (Lbm a.Out b.Out) fun y5=>bi (Lbr a.Flow b.Flow) fun y7=>bi (Lbp [y1,y3,y5,y7]) fun y9=>some y9
def Lbt(k:Nat)(l:List Kxr):Option Int:=
 bif decide (((l.length:Int):Int)>3000) then(some 2) else(bi (rangeM (σ:=Unit) (ρ:=Int) (fun i3 x5 s4=>bi (Lae k x5.Node) fun y14=>bif !y14 then(bi (some 5) fun v=>some (.out v)) else(bi (Lap x5.Hour 0 96023) fun y20=>bif y20 then(bi (some 1) fun v=>some (.out v)) else(bi (Lbd k x5.Flow) fun y26=>bif (y26:Int) != 0 then(bi (some y26) fun v=>some (.out v)) else(bi (Lap x5.Packets 1 1000000000000) fun y32=>bi (bif y32 then(some true) else(bi (Lap x5.Bytes 0 1000000000000) fun y38=>some y38)) fun q34=>bif q34 then(bi (some 1) fun v=>some (.out v)) else(bi (bif decide (((i3:Int):Int)>0) then(bi (getZ l (wi ((i3:Int) - 1))) fun x47=>bi (Lbs x47 x5) fun y49=>some (decide ((y49:Int)≥0))) else(some false)) fun q44=>bif q44 then(bi (some 7) fun v=>some (.out v)) else(some (.go ()))))))) 0 l ()) fun q=>goI q fun a8=>some 0)
def Lbu(l:List Kxo):Option (List (Kxe×Str)):=
 bi (rangeF (σ:=List (Kxe×Str)) (fun i1 x3 s2=>bi (rangeF (σ:=List (Kxe×Str)) (fun i12 x14 s13=>some (mSet s13 x14 x3.Key)) 0 x3.Addrs s2) fun q15=>some q15) 0 l ([]:List (Kxe×Str))) fun q4=>some q4
def Lbv(k:Nat)(nodes:List Kxo)(l:List Kxr):Option ((Option Kxs)×Int):=
 bi (Lbg k nodes) fun y1=>bif (y1:Int) != 0 then(some (none,y1)) else(bi (Lbt k l) fun y5=>bif (y5:Int) != 0 then(some (none,y5)) else(bi (Lbu nodes) fun y9=>some (some (⟨nodes,l,y9⟩:Kxs),0)))
def Lbw(s:List Kxt):Option (List Kxt):=
 bi (apd ([]:List Kxt) s) fun y1=>some y1
def Lbx(a:Kxt)(b:Kxt):Option Int:=
 bi (Lbq a.First b.First) fun y1=>some y1
def Lby(a:Kxe)(n:Int):Option Kxe:=
 bi (Lao a) fun y1=>bi (Laq (wi (y1 - n))) fun y3=>some (⟨a.Six,bitsV .or .u64 a.Hi y3.1,bitsV .or .u64 a.Lo y3.2⟩:Kxe)
def Lbz(a:Kxe):Option (Kxe×Bool):=
 bi (Lby a 0) fun y1=>bif (((a.Six:Bool)==y1.Six)&&(((a.Hi:Int)==y1.Hi)&&(((a.Lo:Int)==y1.Lo)&&true))) then(some (a,false)) else(bi (Kro a.Lo 1 0) fun y5=>some ((⟨a.Six,IntKind.u64.wrap (a.Hi+y5.2),y5.1⟩:Kxe),true))
def Lca(a:Kxt)(b:Kxt):Option Bool:=
 bif !((a.First.Six:Bool)==b.First.Six) then(some false) else(bi (Lbz a.Last) fun y3=>bi (bif !y3.2 then(some true) else(bi (Lbq b.First y3.1) fun y9=>some (decide ((y9:Int)≤0)))) fun q5=>some q5)
def Lcb(v_all:List Kxt):Option (List Kxt):=
 bi (Lbw v_all) fun y1=>sortD (fun a b=>Lbx a b) y1 fun y3=>gd (decide (y3.length=y1.length)) (bi (gd (decide ((y3.length:Int)≤9223372036854775807)) (rangeG (σ:=List Kxt) (fun i9 s10=>bi (getZ y3 (i9:Int)) fun x21=>bi (bif decide ((wi ((s10.length:Int) - 1):Int)≥0) then(bi (getZ s10 (wi ((s10.length:Int) - 1))) fun x27=>bi (Lca x27 x21) fun y30=>some y30) else(some false)) fun q24=>bif q24 then(bi (getZ s10 (wi ((s10.length:Int) - 1))) fun x34=>bi (Lbq x34.Last x21.Last) fun y37=>bi (bif decide ((y37:Int)<0) then(bi (getZ s10 (wi ((s10.length:Int) - 1))) fun x42=>some (s10.set ((wi ((s10.length:Int) - 1)).toNat) (⟨x42.First,x21.Last⟩:Kxt))) else(some s10)) fun q39=>some q39) else(bi (apd s10 [x21]) fun y47=>some y47)) (y3.length:Int) ([]:List Kxt))) fun q12=>some q12)
def Lcc(l:List Kxe):Option (List Kxt):=
 bi (rangeF (σ:=List Kxt) (fun i1 x3 s2=>bi (apd s2 [(⟨x3,x3⟩:Kxt)]) fun y12=>some y12) 0 l ([]:List Kxt)) fun q4=>bi (Lcb q4) fun y14=>some y14
def Lcd(a:Kxe):Option Kxe:=
 bi (Krp a.Lo 1 0) fun y1=>some (⟨a.Six,IntKind.u64.wrap (a.Hi - y1.2),y1.1⟩:Kxe)
def Lce(a:List Kxt):Option (List Kxt):=
 bi (rangeF (σ:=List Kxt) (fun i1 x3 s2=>bi (rangeF (σ:=(List Kxt)×Kxe×Bool) (fun i12 x14 s13=>bif !((x14.First.Six:Bool)==x3) then(some (s13.1,s13.2.1,s13.2.2)) else(bi (Lbq s13.2.1 x14.First) fun y25=>bi (bif decide ((y25:Int)<0) then(bi (Lcd x14.First) fun y30=>bi (apd s13.1 [(⟨s13.2.1,y30⟩:Kxt)]) fun y32=>some y32) else(some s13.1)) fun q27=>bi (Lbz x14.Last) fun y35=>some (q27,y35.1,y35.2))) 0 a (s2,(⟨x3,0,0⟩:Kxe),true)) fun q15=>bif q15.2.2 then(bi (Lby q15.2.1 0) fun y38=>bi (apd q15.1 [(⟨q15.2.1,y38⟩:Kxt)]) fun y40=>some y40) else(some q15.1)) 0 [false,true] ([]:List Kxt)) fun q4=>some q4
def Lcf  : Option (List Kxt):=
 bi (Lce []) fun y1=>some y1
def Lcg(n:Kxo)(x:Kxh):Option Bool:=
 some ((n.User:Str)==x.Name)
def Lch(v:Kxu)(f:Kxh):Option (List Kxt):=
 bi (rangeF (σ:=List Kxe) (fun i1 x3 s2=>bi (Lcg x3 f) fun y12=>bif y12 then(bi (apd s2 x3.Addrs) fun y15=>some y15) else(some s2)) 0 v.s.Nodes ([]:List Kxe)) fun q4=>bi (Lcc q4) fun y18=>some y18
def Lci(s:List Str):Option (List Str):=
 bi (apd ([]:List Str) s) fun y1=>some y1
def Lcj(k:Nat)(s:List Str):Option (List Str):=
 bif decide (((s.length:Int):Int)<2) then(some s) else(bi (loopM (σ:=Int) (ρ:=Unit ⊕ (List Str)) (fun s4=>bif decide ((s4:Int)<(s.length:Int)) then(bi (getZ s s4) fun x14=>bi (getZ s (wi (s4 - 1))) fun x17=>bif (x14:Str)==x17 then(bi (subZ s s4 (s.length:Int)) fun z21=>bi (loopM (σ:=(List Str)×Int×Int) (ρ:=(List Str)×Int) (fun s24=>bif decide ((s24.2.2:Int)<(z21.length:Int)) then(bi (getZ z21 s24.2.2) fun x34=>bi (getZ s24.1 (((s4.toNat+s24.2.2.toNat):Nat):Int)) fun x36=>bi (getZ z21 (wi (s24.2.2 - 1))) fun x39=>bi (getZ s24.1 (((s4.toNat+(wi (s24.2.2 - 1)).toNat):Nat):Int)) fun x41=>bif !((x36:Str)==x41) then(bi (getZ z21 s24.2.2) fun x45=>bi (getZ s24.1 (((s4.toNat+s24.2.2.toNat):Nat):Int)) fun x47=>bi (getZ s24.1 s24.2.1) fun x50=>some (.go (s24.1.set s24.2.1.toNat x47,wi (s24.2.1+1),wi (s24.2.2+1)))) else(some (.go (s24.1,s24.2.1,wi (s24.2.2+1))))) else(some (.out (s24.1,s24.2.1)))) k (s,s4,1)) fun q26=>bi (subZ q26.1 q26.2 (q26.1.length:Int)) fun z55=>bi (some (q26.1.take q26.2.toNat)) fun v=>some (.out (.inr v))) else(some (.go (wi (s4+1))))) else(some (.out (.inl ())))) k 1) fun q=>orI q fun a8=>some s)
def Lck(k:Nat)(l:List Str):Option (List Str):=
 bi (Lci l) fun y1=>bi (Krq y1) fun y3=>gd (decide (y3.length=y1.length)) (bi (Lcj k y3) fun y7=>some y7)
def Lcl(k:Nat)(p:Kxn)(i:Int):Option (List Str):=
 bi (Lal k p i) fun y1=>rangeD (σ:=List Str) (fun x10 s9=>bi (getZ p.Groups x10.1) fun x21=>bi (rangeF (σ:=List Str) (fun i23 x25 s24=>bi (Kqx x25 [64]) fun y34=>bif !y34 then(bi (apd s24 [x25]) fun y37=>some y37) else(some s24)) 0 x21.Members s9) fun q26=>some q26) (mSet y1 i true) ([]:List Str) fun s9=>bi (Lck k s9) fun y17=>some y17
def Lcm(n:Kxo)(x:List Str):Option Bool:=
 bi (Lag x n.User) fun y1=>some y1
def Lcn(v:Kxu)(f:List Str):Option (List Kxt):=
 bi (rangeF (σ:=List Kxe) (fun i1 x3 s2=>bi (Lcm x3 f) fun y12=>bif y12 then(bi (apd s2 x3.Addrs) fun y15=>some y15) else(some s2)) 0 v.s.Nodes ([]:List Kxe)) fun q4=>bi (Lcc q4) fun y18=>some y18
def Lco(n:Kxo)(x:Kxh):Option Bool:=
 bi (Lag n.Tags x.Name) fun y1=>some y1
def Lcp(v:Kxu)(f:Kxh):Option (List Kxt):=
 bi (rangeF (σ:=List Kxe) (fun i1 x3 s2=>bi (Lco x3 f) fun y12=>bif y12 then(bi (apd s2 x3.Addrs) fun y15=>some y15) else(some s2)) 0 v.s.Nodes ([]:List Kxe)) fun q4=>bi (Lcc q4) fun y18=>some y18
def Lcq(n:Kxo)(x:Kxh):Option Bool:=
 some ((n.Key:Str)==x.Name)
def Lcr(v:Kxu)(f:Kxh):Option (List Kxt):=
 bi (rangeF (σ:=List Kxe) (fun i1 x3 s2=>bi (Lcq x3 f) fun y12=>bif y12 then(bi (apd s2 x3.Addrs) fun y15=>some y15) else(some s2)) 0 v.s.Nodes ([]:List Kxe)) fun q4=>bi (Lcc q4) fun y18=>some y18
def Lcs(p:Kxf):Option Kxe:=
 bi (Lby p.Addr p.Bits) fun y1=>some y1
def Lct(l:List Kxf):Option (List Kxt):=
 bi (rangeF (σ:=List Kxt) (fun i1 x3 s2=>bi (Lcs x3) fun y12=>bi (apd s2 [(⟨x3.Addr,y12⟩:Kxt)]) fun y14=>some y14) 0 l ([]:List Kxt)) fun q4=>bi (Lcb q4) fun y16=>some y16
def Lcu(n:Kxo):Option Bool:=
 some (!((n.User:Str)==[]))
def Lcv(v:Kxu):Option (List Kxt):=
 bi (rangeF (σ:=List Kxe) (fun i1 x3 s2=>bi (Lcu x3) fun y12=>bif y12 then(bi (apd s2 x3.Addrs) fun y15=>some y15) else(some s2)) 0 v.s.Nodes ([]:List Kxe)) fun q4=>bi (Lcc q4) fun y18=>some y18
def Lcw(n:Kxo):Option Bool:=
 some (decide (((n.Tags.length:Int):Int)>0))
def Lcx(v:Kxu):Option (List Kxt):=
 bi (rangeF (σ:=List Kxe) (fun i1 x3 s2=>bi (Lcw x3) fun y12=>bif y12 then(bi (apd s2 x3.Addrs) fun y15=>some y15) else(some s2)) 0 v.s.Nodes ([]:List Kxe)) fun q4=>bi (Lcc q4) fun y18=>some y18
def Lcy(k:Nat)(v:Kxu)(w:Kxh):Option (List Kxt):=
 bif (w.Kind:Int)==1 then(bi Lcf fun y2=>some y2) else(bif (w.Kind:Int)==2 then(bi (Lch v w) fun y6=>some y6) else(bif (w.Kind:Int)==3 then(bi (Laj k v.s.Policy w.Name) fun y10=>bi (Lcl k v.s.Policy y10.1) fun y12=>bi (Lcn v y12) fun y14=>some y14) else(bif (w.Kind:Int)==4 then(bi (Lcp v w) fun y18=>some y18) else(bif (w.Kind:Int)==5 then(bi (Lcr v w) fun y22=>some y22) else(bif (w.Kind:Int)==6 then(bi (Law k v.s.Policy w.Name) fun y26=>bi (getZ v.s.Policy.Hosts y26.1) fun x28=>bi (Lct [x28.Net]) fun y30=>some y30) else(bif (w.Kind:Int)==7 then(bi (Lct [w.Net]) fun y34=>some y34) else(bif (w.Kind:Int)==8 then(bi (Lcv v) fun y38=>some y38) else(bif (w.Kind:Int)==9 then(bi (Lcx v) fun y42=>some y42) else(some [])))))))))
def Lcz(a:List Kxt)(b:List Kxt):Option (List Kxt):=
 bi (Lbw a) fun y1=>bi (apd y1 b) fun y3=>bi (Lcb y3) fun y5=>some y5
def Lda(p:Str)(x:Kxu)(x2:Kxo):Option Bool:=
 some ((mGet x.meets (⟨x2.Key,p⟩:Kxp)).getD false)
def Ldb(s:List Str)(f:Kxu)(f2:Kxo):Option Int:=
 bi (rangeM (σ:=Unit) (ρ:=Int) (fun i1 x3 s2=>bi (Lda x3 f f2) fun y12=>bif y12 then(bi (some (i1:Int)) fun v=>some (.out v)) else(some (.go ()))) 0 s ()) fun q=>goI q fun a6=>some (-1)
def Ldc(s:List Str)(f:Kxu)(f2:Kxo):Option Bool:=
 bi (Ldb s f f2) fun y1=>some (decide ((y1:Int)≥0))
def Ldd(n:Kxo)(x:Kxk)(x2:Kxu):Option Bool:=
 bi (Ldc x.Postures (⟨x2.s,x2.owners,x2.meets,x2.src,x2.dst,x2.own⟩:Kxu) n) fun y1=>some y1
def Lde(v:Kxu)(f:Kxk):Option (List Kxt):=
 bi (rangeF (σ:=List Kxe) (fun i1 x3 s2=>bi (Ldd x3 (⟨f.Src,f.Dst,f.Proto,f.Postures⟩:Kxk) v) fun y12=>bif y12 then(bi (apd s2 x3.Addrs) fun y15=>some y15) else(some s2)) 0 v.s.Nodes ([]:List Kxe)) fun q4=>bi (Lcc q4) fun y18=>some y18
def Ldf(a:Kxe)(b:Kxe):Option Kxe:=
 bi (Lbq a b) fun y1=>bif decide ((y1:Int)>0) then(some a) else(some b)
def Ldg(a:Kxe)(b:Kxe):Option Kxe:=
 bi (Lbq a b) fun y1=>bif decide ((y1:Int)<0) then(some a) else(some b)
def Ldh(k:Nat)(a:List Kxt)(b:List Kxt):Option (List Kxt):=
 bi (loopM (σ:=(List Kxt)×Int×Int) (ρ:=List Kxt) (fun s2=>bif ((decide ((s2.2.1:Int)<(a.length:Int)))&&(decide ((s2.2.2:Int)<(b.length:Int)))) then(bi (getZ a s2.2.1) fun x12=>bi (getZ b s2.2.2) fun x14=>bi (Ldf x12.First x14.First) fun y16=>bi (getZ a s2.2.1) fun x18=>bi (getZ b s2.2.2) fun x20=>bi (Ldg x18.Last x20.Last) fun y22=>bi (Lbq y16 y22) fun y24=>bi (bif decide ((y24:Int)≤0) then(bi (apd s2.1 [(⟨y16,y22⟩:Kxt)]) fun y29=>some y29) else(some s2.1)) fun q26=>bi (getZ a s2.2.1) fun x32=>bi (getZ b s2.2.2) fun x34=>bi (Lbq x32.Last x34.Last) fun y36=>bif decide ((y36:Int)<0) then(some (.go (q26,wi (s2.2.1+1),s2.2.2))) else(some (.go (q26,s2.2.1,wi (s2.2.2+1))))) else(some (.out s2.1))) k (([]:List Kxt),0,0)) fun q4=>bi (Lcb q4) fun y41=>some y41
def Ldi(k:Nat)(v:Kxu)(v_g:Kxk):Option (List Kxt):=
 bi (rangeF (σ:=List Kxt) (fun i1 x3 s2=>bi (Lcy k v x3) fun y12=>bi (Lcz s2 y12) fun y14=>some y14) 0 v_g.Src []) fun q4=>bif ((v_g.Postures.length:Int):Int)==0 then(some q4) else(bi (Lde v v_g) fun y18=>bi (Ldh k q4 y18) fun y20=>some y20)
def Ldj(k:Nat)(s:Kxq)(al:List Bool):Option (Kxu×(List Bool)):=
 bi (rangeF (σ:=(List Bool)×(List (Kxe×Int))×(List (Str×(Tl Kxe)))) (fun i1 x3 s2=>bi (rangeF (σ:=List (Kxe×Int)) (fun i12 x14 s13=>some (mSet s13 x14 (i1:Int))) 0 x3.Addrs s2.2.1) fun q15=>bif !((x3.User:Str)==[]) then(bi (appT s2.1 ((mGet s2.2.2 x3.User).getD (1,[])) x3.Addrs) fun y24=>some (y24.2,q15,(mSet s2.2.2 x3.User y24.1))) else(some (s2.1,q15,s2.2.2))) 0 s.Nodes (al,([]:List (Kxe×Int)),([]:List (Str×(Tl Kxe))))) fun q4=>bi (rangeP (σ:=List (Str×(List Kxt))) (fun x34 s33=>bi (Lcc x34.2.2) fun y87=>some (mSet s33 x34.1 y87)) q4.2.2 ([]:List (Str×(List Kxt)))) fun q38=>bi (rangeF (σ:=List (Kxp×Bool)) (fun i42 x44 s43=>some (mSet s43 x44 true)) 0 s.Facts ([]:List (Kxp×Bool))) fun q45=>bi (rangeF (σ:=(List (List Kxt))×(List (List (List Kxt)))) (fun i53 x55 s54=>bi (Ldi k (⟨s,q4.2.1,q45,s54.1,s54.2,q38⟩:Kxu) x55) fun y64=>bi (apd s54.1 [y64]) fun y66=>bi (rangeF (σ:=List (List Kxt)) (fun i68 x70 s69=>bi (Lcy k (⟨s,q4.2.1,q45,y66,s54.2,q38⟩:Kxu) x70.What) fun y79=>bi (apd s69 [y79]) fun y81=>some y81) 0 x55.Dst ([]:List (List Kxt))) fun q71=>bi (apd s54.2 [q71]) fun y83=>some (y66,y83)) 0 s.Policy.Grants (([]:List (List Kxt)),([]:List (List (List Kxt))))) fun q56=>some ((⟨s,q4.2.1,q45,q56.1,q56.2,q38⟩:Kxu),q4.1)
def Ldk(v_g:Kxs)(v_r:Kxr):Option Bool:=
 bif v_r.Out then(some ((((mGet v_g.owners v_r.Flow.From).getD []):Str)==v_r.Node)) else(some ((((mGet v_g.owners v_r.Flow.To).getD []):Str)==v_r.Node))
def Ldl(v_g:Kxk)(proto:Int):Option Bool:=
 some (((v_g.Proto:Int)==0)||((v_g.Proto:Int)==proto))
def Ldm(v_r:Kxt)(x:Kxe):Option Int:=
 bi (Lbq v_r.First x) fun y1=>some y1
def Ldn(k:Nat)(x:List Kxt)(target:Kxe):Option (Int×Bool):=
 bi (loopM (σ:=Int×Int) (ρ:=Int) (fun s2=>bif decide ((s2.1:Int)<s2.2) then(bi (getZ x (wi (shrV .u64 (IntKind.u64.wrap (wi (s2.1+s2.2))) 1))) fun x12=>bi (Ldm x12 target) fun y14=>bif decide ((y14:Int)<0) then(some (.go (wi ((wi (shrV .u64 (IntKind.u64.wrap (wi (s2.1+s2.2))) 1))+1),s2.2))) else(some (.go (s2.1,wi (shrV .u64 (IntKind.u64.wrap (wi (s2.1+s2.2))) 1))))) else(some (.out s2.1))) k (0,(x.length:Int))) fun q4=>bi (bif decide ((q4:Int)<(x.length:Int)) then(bi (getZ x q4) fun x22=>bi (Ldm x22 target) fun y24=>some ((y24:Int)==0)) else(some false)) fun q19=>some (q4,q19)
def Ldo(k:Nat)(a:List Kxt)(x:Kxe):Option Bool:=
 bi (Ldn k a x) fun y1=>bi (bif y1.2 then(some true) else(bif decide ((y1.1:Int)>0) then(bi (getZ a (wi (y1.1 - 1))) fun x8=>bif (x8.First.Six:Bool)==x.Six then(bi (getZ a (wi (y1.1 - 1))) fun x11=>bi (Lbq x x11.Last) fun y13=>some (decide ((y13:Int)≤0))) else(some false)) else(some false))) fun q3=>some q3
def Ldp(p:Kxi)(n:Int):Option Bool:=
 some ((decide ((p.From:Int)≤n))&&(decide ((n:Int)≤p.To)))
def Ldq(v:Kxu)(a:Kxe):Option Str:=
 bif !((mGet v.owners a).isSome) then(some []) else(bi (getZ v.s.Nodes ((mGet v.owners a).getD 0)) fun x3=>some x3.User)
def Ldr(k:Nat)(v:Kxu)(i:Int)(v_k:Int)(v_from:Kxe)(v_to:Kxe):Option Bool:=
 bi (getZ v.s.Policy.Grants i) fun x1=>bi (getZ x1.Dst v_k) fun x3=>bif (x3.What.Kind:Int) != 10 then(bi (getZ v.dst i) fun x6=>bi (getZ x6 v_k) fun x9=>bi (Ldo k x9 v_to) fun y11=>some y11) else(bi (Ldq v v_from) fun y14=>bi (bif !((y14:Str)==[]) then(bi (Ldq v v_to) fun y19=>some ((y14:Str)==y19)) else(some false)) fun q16=>some q16)
def Lds(k:Nat)(v:Kxu)(i:Int)(f:Kxl):Option Bool:=
 bi (getZ v.s.Policy.Grants i) fun x1=>bi (bi (Ldl x1 f.Proto) fun y5=>bif !y5 then(some true) else(bi (getZ v.src i) fun x9=>bi (Ldo k x9 f.From) fun y12=>some (!y12))) fun q3=>bif q3 then(some false) else(bi (rangeM (σ:=Unit) (ρ:=Bool) (fun i16 x18 s17=>bi (Ldp x18.Ports f.ToPort) fun y27=>bi (bif y27 then(bi (Ldr k v i (i16:Int) f.From f.To) fun y32=>some y32) else(some false)) fun q29=>bif q29 then(bi (some true) fun v=>some (.out v)) else(some (.go ()))) 0 x1.Dst ()) fun q=>goI q fun a21=>some false)
def Ldt(k:Nat)(v:Kxu)(f:Kxl):Option Bool:=
 bi (gd (decide ((v.s.Policy.Grants.length:Int)≤9223372036854775807)) (rangeI (σ:=Unit) (ρ:=Bool) (fun i1 s2=>bi (Lds k v (i1:Int) f) fun y13=>bif y13 then(bi (some true) fun v=>some (.out v)) else(some (.go ()))) (v.s.Policy.Grants.length:Int) ())) fun q=>goI q fun a6=>some false
def Ldu(k:Nat)(s:Kxq)(l:List Kxr)(al:List Bool):Option ((List Int)×Int×(List Bool)):=
 bi (Lbl k s) fun y1=>bif (y1:Int) != 0 then(some ([],y1,al)) else(bi (Lbv k s.Nodes l) fun y5=>match y5 with | (none,z8)=>(bif (z8:Int) != 0 then(some ([],z8,al)) else(bi (Ldj k s al) fun y11=>bi (rangeF (σ:=Unit) (fun i13 x15 s14=>bi (bif !x15.Out then none else(some ())) fun q24=>some ()) 0 l ()) fun q16=>some (([]:List Int),0,y11.2))) | (some z7,z8)=>(bif (z8:Int) != 0 then(some ([],z8,al)) else(bi (Ldj k s al) fun y30=>bi (rangeF (σ:=List Int) (fun i32 x34 s33=>bi (bif !x34.Out then(bi (Ldk z7 x34) fun y46=>some y46) else(some false)) fun q43=>bi (bif q43 then(bi (Ldt k y30.1 x34.Flow) fun y52=>some (!y52)) else(some false)) fun q49=>bi (bif q49 then(bi (Ldt k y30.1 (⟨x34.Flow.Proto,x34.Flow.To,x34.Flow.From,x34.Flow.ToPort,x34.Flow.FromPort⟩:Kxl)) fun y58=>some (!y58)) else(some false)) fun q55=>bif q55 then(bi (apd s33 [(i32:Int)]) fun y62=>some y62) else(some s33)) 0 l ([]:List Int)) fun q35=>some (q35,0,y30.2))))
def Ldv(k:Nat)(a:Kxe):Option (Int×Int×Int×Int×Int×Int×Int×Int):=
 bi (loopM (σ:=(Int×Int×Int×Int×Int×Int×Int×Int)×Int) (ρ:=(Int×Int×Int×Int×Int×Int×Int×Int)) (fun s2=>bif decide ((s2.2:Int)<4) then(bi (shrZ .u64 a.Hi (wi (48 - (wi (16 * s2.2))))) fun y12=>bi (getZ ([s2.1.1,s2.1.2.1,s2.1.2.2.1,s2.1.2.2.2.1,s2.1.2.2.2.2.1,s2.1.2.2.2.2.2.1,s2.1.2.2.2.2.2.2.1,s2.1.2.2.2.2.2.2.2]:List Int) s2.2) fun x14=>bi (shrZ .u64 a.Lo (wi (48 - (wi (16 * s2.2))))) fun y16=>bi (getZ ([updA s2.2 0 (bitsV .and .u64 y12 65535) s2.1.1,updA s2.2 1 (bitsV .and .u64 y12 65535) s2.1.2.1,updA s2.2 2 (bitsV .and .u64 y12 65535) s2.1.2.2.1,updA s2.2 3 (bitsV .and .u64 y12 65535) s2.1.2.2.2.1,updA s2.2 4 (bitsV .and .u64 y12 65535) s2.1.2.2.2.2.1,updA s2.2 5 (bitsV .and .u64 y12 65535) s2.1.2.2.2.2.2.1,updA s2.2 6 (bitsV .and .u64 y12 65535) s2.1.2.2.2.2.2.2.1,updA s2.2 7 (bitsV .and .u64 y12 65535) s2.1.2.2.2.2.2.2.2]:List Int) (wi (4+s2.2))) fun x18=>some (.go ((updA (wi (4+s2.2)) 0 (bitsV .and .u64 y16 65535) (updA s2.2 0 (bitsV .and .u64 y12 65535) s2.1.1),updA (wi (4+s2.2)) 1 (bitsV .and .u64 y16 65535) (updA s2.2 1 (bitsV .and .u64 y12 65535) s2.1.2.1),updA (wi (4+s2.2)) 2 (bitsV .and .u64 y16 65535) (updA s2.2 2 (bitsV .and .u64 y12 65535) s2.1.2.2.1),updA (wi (4+s2.2)) 3 (bitsV .and .u64 y16 65535) (updA s2.2 3 (bitsV .and .u64 y12 65535) s2.1.2.2.2.1),updA (wi (4+s2.2)) 4 (bitsV .and .u64 y16 65535) (updA s2.2 4 (bitsV .and .u64 y12 65535) s2.1.2.2.2.2.1),updA (wi (4+s2.2)) 5 (bitsV .and .u64 y16 65535) (updA s2.2 5 (bitsV .and .u64 y12 65535) s2.1.2.2.2.2.2.1),updA (wi (4+s2.2)) 6 (bitsV .and .u64 y16 65535) (updA s2.2 6 (bitsV .and .u64 y12 65535) s2.1.2.2.2.2.2.2.1),updA (wi (4+s2.2)) 7 (bitsV .and .u64 y16 65535) (updA s2.2 7 (bitsV .and .u64 y12 65535) s2.1.2.2.2.2.2.2.2)),wi (s2.2+1)))) else(some (.out s2.1))) k ((0,0,0,0,0,0,0,0),0)) fun q4=>some q4
def Ldw(k:Nat)(v_g:(Int×Int×Int×Int×Int×Int×Int×Int)):Option (Int×Int):=
 bi (loopM (σ:=Int×Int×Int) (ρ:=Int×Int) (fun s2=>bif decide ((s2.2.2:Int)<8) then(bi (loopM (σ:=Int) (ρ:=Int) (fun s13=>bi (bif decide ((wi (s2.2.2+s13):Int)<8) then(bi (getZ ([v_g.1,v_g.2.1,v_g.2.2.1,v_g.2.2.2.1,v_g.2.2.2.2.1,v_g.2.2.2.2.2.1,v_g.2.2.2.2.2.2.1,v_g.2.2.2.2.2.2.2]:List Int) (wi (s2.2.2+s13))) fun x25=>some ((x25:Int)==0)) else(some false)) fun q22=>bif q22 then(some (.go (wi (s13+1)))) else(some (.out s13))) k 0) fun q15=>bi (bif decide ((q15:Int)>s2.2.1) then(some (s2.2.2,q15)) else(some (s2.1,s2.2.1))) fun q30=>some (.go (q30.1,q30.2,wi ((wi (s2.2.2+q15))+1)))) else(some (.out (s2.1,s2.2.1)))) k (0,0,0)) fun q4=>some (q4.1,q4.2)
def Ldx(k:Nat)(a:Kxe):Option Str:=
 bif !a.Six then(bi (loopM (σ:=(List Str)×Int) (ρ:=List Str) (fun s3=>bif decide ((s3.2:Int)<4) then(bi (shrZ .u64 a.Lo (wi (24 - (wi (8 * s3.2))))) fun y13=>bi (Krm (bitsV .and .u64 y13 255) 10) fun y15=>bi (apd s3.1 [y15]) fun y17=>some (.go (y17,wi (s3.2+1)))) else(some (.out s3.1))) k (([]:List Str),0)) fun q5=>bi (Krn q5 [46]) fun y20=>some y20) else(bi (Ldv k a) fun y23=>bi (loopM (σ:=(List Str)×Int) (ρ:=List Str) (fun s26=>bif decide ((s26.2:Int)<8) then(bi (getZ ([y23.1,y23.2.1,y23.2.2.1,y23.2.2.2.1,y23.2.2.2.2.1,y23.2.2.2.2.2.1,y23.2.2.2.2.2.2.1,y23.2.2.2.2.2.2.2]:List Int) s26.2) fun x36=>bi (Krm x36 16) fun y38=>bi (apd s26.1 [y38]) fun y40=>some (.go (y40,wi (s26.2+1)))) else(some (.out s26.1))) k (([]:List Str),0)) fun q28=>bi (Ldw k y23) fun y43=>bif decide ((y43.2:Int)<2) then(bi (Krn q28 [58]) fun y46=>some y46) else(bi (subZ q28 0 y43.1) fun z49=>bi (Krn z49 [58]) fun y51=>bi (catZ y51 [58,58]) fun y53=>bi (subZ q28 (wi (y43.1+y43.2)) (q28.length:Int)) fun z55=>bi (Krn z55 [58]) fun y57=>bi (catZ y53 y57) fun y59=>some y59))
def Ldy(k:Nat)(a:Kxe):Option (Str×Int):=
 bi (Lan a) fun y1=>bif (y1:Int) != 0 then(some ([],y1)) else(bi (Ldx k a) fun y5=>some (y5,0))
def Ldz(s:Str):Option ((List Str)×Bool):=
 bi (Krc s [10]) fun y1=>bi (getZ y1 (wi ((y1.length:Int) - 1))) fun x3=>bif (x3:Str)==[] then(bi (subZ y1 0 (wi ((y1.length:Int) - 1))) fun z6=>some (z6,true)) else(some (y1,false))
def Lea(s:Str):Option ((List Str)×Bool):=
 bi (Krc s [32]) fun y1=>bi (Lag y1 []) fun y3=>some (y1,!y3)
def Leb  : Option (List Str):=
 some [[],[],[117,115,101,114,58],[103,114,111,117,112,58],[116,97,103,58],[110,111,100,101,58],[104,111,115,116,58]]
def Lec(s:Str):Option (Kxh×Bool):=
 bif (s:Str)==[42] then(some ((⟨1,[],(⟨(⟨false,0,0⟩:Kxe),0⟩:Kxf)⟩:Kxh),true)) else(bif (s:Str)==[109,101,109,98,101,114] then(some ((⟨8,[],(⟨(⟨false,0,0⟩:Kxe),0⟩:Kxf)⟩:Kxh),true)) else(bif (s:Str)==[116,97,103,103,101,100] then(some ((⟨9,[],(⟨(⟨false,0,0⟩:Kxe),0⟩:Kxf)⟩:Kxh),true)) else(bif (s:Str)==[115,101,108,102] then(some ((⟨10,[],(⟨(⟨false,0,0⟩:Kxe),0⟩:Kxf)⟩:Kxh),true)) else(bi (Kqz s [110,101,116,58]) fun y9=>bif y9.2 then none else(bi Leb fun y13=>bi (rangeF (σ:=Unit) (fun i15 x17 s16=>bi (Kqz s x17) fun y26=>bif (y26.2&&(!((x17:Str)==[]))) then none else(some ())) 0 y13 ()) fun q18=>some ((⟨0,[],(⟨(⟨false,0,0⟩:Kxe),0⟩:Kxf)⟩:Kxh),false))))))
def Led(s:Str):Option (Kxj×Bool):=
 bi (Kre s [59]) fun y1=>bi (Lec y1.1) fun y3=>bi Laz fun y5=>bif y1.2.2 then none else(some ((⟨y3.1,y5⟩:Kxj),y3.2))
def Lee(w:List Str):Option (Kxk×Bool):=
 bi (bif decide (((w.length:Int):Int)<3) then(some true) else(bi (getZ w 1) fun x5=>some (!((x5:Str)==[45,62])))) fun q1=>bif q1 then(some ((⟨([]:List Kxh),([]:List Kxj),0,[]⟩:Kxk),false)) else(bi (getZ w 0) fun x9=>bi (Krc x9 [44]) fun y11=>bi (rangeM (σ:=List Kxh) (ρ:=Kxk×Bool) (fun i13 x15 s14=>bi (Lec x15) fun y24=>bif !y24.2 then(bi (some ((⟨s14,([]:List Kxj),0,[]⟩:Kxk),false)) fun v=>some (.out v)) else(bi (apd s14 [y24.1]) fun y30=>some (.go y30))) 0 y11 ([]:List Kxh)) fun q=>goI q fun a18=>bi (getZ w 2) fun x32=>bi (Krc x32 [44]) fun y34=>bi (rangeM (σ:=List Kxj) (ρ:=Kxk×Bool) (fun i36 x38 s37=>bi (Led x38) fun y47=>bif !y47.2 then(bi (some ((⟨a18,s37,0,[]⟩:Kxk),false)) fun v=>some (.out v)) else(bi (apd s37 [y47.1]) fun y53=>some (.go y53))) 0 y34 ([]:List Kxj)) fun q=>goI q fun a41=>bi (subZ w 3 (w.length:Int)) fun z55=>bi (bif decide (((z55.length:Int):Int)≥2) then(bi (getZ z55 0) fun x60=>some ((x60:Str)==[112,114,111,116,111])) else(some false)) fun q57=>bif q57 then none else(bi (bif ((z55.length:Int):Int)==2 then(bi (getZ z55 0) fun x68=>some ((x68:Str)==[105,102])) else(some false)) fun q65=>bi (bif q65 then(bi (getZ z55 1) fun x74=>bi (Krc x74 [44]) fun y76=>bi (rangeF (σ:=Unit) (fun i78 x80 s79=>none) 0 y76 ()) fun q81=>some (y76,[])) else(some ([],z55))) fun q71=>some ((⟨a18,a41,0,q71.1⟩:Kxk),((q71.2.length:Int):Int)==0)))
def Lef(v_r:Kxv)(s:Str):Option (Bool×Kxv):=
 bi (Lea s) fun y1=>bif !y1.2 then(some (false,v_r)) else(bi (getZ y1.1 0) fun x5=>bi (Laf [[103,114,111,117,112],[104,111,115,116],[97,108,108,111,119],[97,99,99,101,112,116],[100,101,110,121]] x5) fun y7=>bif decide (((if 3<y7 then 3 else y7):Int)<v_r.kind) then(some (false,v_r)) else(bif ((if 3<y7 then 3 else y7):Int)==0 then(bif decide (((y1.1.length:Int):Int)<2) then(some (false,(⟨v_r.p,(if 3<y7 then 3 else y7)⟩:Kxv))) else(bi (getZ y1.1 1) fun x14=>bi (subZ y1.1 2 (y1.1.length:Int)) fun z16=>bi (apd v_r.p.Groups [(⟨x14,z16⟩:Kxd)]) fun y18=>some (true,(⟨(⟨y18,v_r.p.Hosts,v_r.p.Grants,v_r.p.Tests⟩:Kxn),(if 3<y7 then 3 else y7)⟩:Kxv)))) else(bif ((if 3<y7 then 3 else y7):Int)==1 then(bif ((y1.1.length:Int):Int) != 3 then(some (false,(⟨v_r.p,(if 3<y7 then 3 else y7)⟩:Kxv))) else none) else(bif ((if 3<y7 then 3 else y7):Int)==2 then(bi (subZ y1.1 1 (y1.1.length:Int)) fun z26=>bi (Lee z26) fun y28=>bi (apd v_r.p.Grants [y28.1]) fun y30=>some (y28.2,(⟨(⟨v_r.p.Groups,v_r.p.Hosts,y30,v_r.p.Tests⟩:Kxn),(if 3<y7 then 3 else y7)⟩:Kxv))) else none))))
def Leg(k:Nat)(text:Str):Option (Kxn×Int×Int):=
 bif decide (((text.length:Int):Int)>200000) then(some ((⟨([]:List Kxd),([]:List Kxg),([]:List Kxk),([]:List Kxm)⟩:Kxn),0,2)) else(bi (Ldz text) fun y3=>bi (rangeM (σ:=(List Kxd)×(List Kxg)×(List Kxk)×(List Kxm)×Int) (ρ:=Kxn×Int×Int) (fun i5 x7 s6=>bi (Lef (⟨(⟨s6.1,s6.2.1,s6.2.2.1,s6.2.2.2.1⟩:Kxn),s6.2.2.2.2⟩:Kxv) x7) fun y16=>bif ((!y16.1)||((!y3.2)&&(((i5:Int):Int)==(wi ((y3.1.length:Int) - 1))))) then(bi (some ((⟨([]:List Kxd),([]:List Kxg),([]:List Kxk),([]:List Kxm)⟩:Kxn),(i5:Int),9)) fun v=>some (.out v)) else(some (.go (y16.2.p.Groups,y16.2.p.Hosts,y16.2.p.Grants,y16.2.p.Tests,y16.2.kind)))) 0 y3.1 (([]:List Kxd),([]:List Kxg),([]:List Kxk),([]:List Kxm),0)) fun q=>goI q fun a10=>bi (Lbe k (⟨a10.1,a10.2.1,a10.2.2.1,a10.2.2.2.1⟩:Kxn)) fun y22=>bif (y22:Int) != 0 then(some ((⟨([]:List Kxd),([]:List Kxg),([]:List Kxk),([]:List Kxm)⟩:Kxn),0,y22)) else(some ((⟨a10.1,a10.2.1,a10.2.2.1,a10.2.2.2.1⟩:Kxn),0,0)))
def Leh(k:Nat)(b:List Int):Option Int:=
 bi (rangeF (σ:=Int) (fun i1 x3 s2=>bi (remZ (i1:Int) 2) fun y12=>bif (y12:Int)==0 then(some (wi (s2+(shlV .i64 (wi (x3)) 8)))) else(some (wi (s2+(wi (x3)))))) 0 b 0) fun q4=>bi (loopM (σ:=Int) (ρ:=Int) (fun s17=>bif decide ((s17:Int)>65535) then(some (.go (wi ((shrV .i64 s17 16)+(bitsV .and .i64 s17 65535))))) else(some (.out s17))) k q4) fun q19=>some (wi (65535 - q19))
def Lei(k:Nat):Option Bool:=
 bi (Ldy k (⟨false,0,1⟩:Kxe)) fun y1=>bi (Leg k [97,108,108,111,119,32,42,32,45,62,32,42,10]) fun y3=>bi (bif (((((y1.2:Int)==0)&&((y1.1:Str)==[48,46,48,46,48,46,49]))&&((y3.2.2:Int)==0))&&(((y3.1.Grants.length:Int):Int)==1)) then(bi (Leh k [0,1]) fun y8=>some ((y8:Int)==65534)) else(some false)) fun q5=>some q5
def Lej(f:Kxl):Option Kxl:=
 some (⟨f.Proto,f.To,f.From,f.ToPort,f.FromPort⟩:Kxl)
def Lek(k:Nat)(f:Kxl):Option (Kxl×Int):=
 bi (Lbd k f) fun y1=>bif (y1:Int) != 0 then(some ((⟨0,(⟨false,0,0⟩:Kxe),(⟨false,0,0⟩:Kxe),0,0⟩:Kxl),y1)) else(bi (Lej f) fun y5=>some (y5,0))
def Lel(k:Nat)(s:Kxq)(f:Kxl)(al:List Bool):Option ((Option Kxu)×Int×(List Bool)):=
 bi (Lbl k s) fun y1=>bif (y1:Int) != 0 then(some (none,y1,al)) else(bi (Lbd k f) fun y5=>bif (y5:Int) != 0 then(some (none,y5,al)) else(bi (Ldj k s al) fun y9=>some (some y9.1,0,y9.2)))
def Lem(k:Nat)(s:Kxq)(f:Kxl)(al:List Bool):Option (Bool×Int×(List Bool)):=
 bi (Lel k s f al) fun y1=>match y1 with | (none,z4,z5)=>(bif (z4:Int) != 0 then(some (false,z4,z5)) else none) | (some z3,z4,z5)=>(bif (z4:Int) != 0 then(some (false,z4,z5)) else(bi (Ldt k z3 f) fun y10=>some (y10,0,z5)))
def Len(s:List Int)(v:Int):Option Int:=
 bi (rangeM (σ:=Unit) (ρ:=Int) (fun i1 x3 s2=>bif (v:Int)==x3 then(bi (some (i1:Int)) fun v=>some (.out v)) else(some (.go ()))) 0 s ()) fun q=>goI q fun a6=>some (-1)
def Leo(s:List Int)(v:Int):Option Bool:=
 bi (Len s v) fun y1=>some (decide ((y1:Int)≥0))
def Lep(v:Kxu)(a:Kxe):Option (Int×Bool):=
 some (((mGet v.owners a).getD 0),(mGet v.owners a).isSome)
def Leq(k:Nat)(s:Kxq)(a:Kxe)(al:List Bool):Option (Str×Bool×Int×(List Bool)):=
 bi (Lbl k s) fun y1=>bif (y1:Int) != 0 then(some ([],false,y1,al)) else(bi (Lan a) fun y5=>bif (y5:Int) != 0 then(some ([],false,y5,al)) else(bi (Ldj k s al) fun y9=>bi (Lep y9.1 a) fun y11=>bif !y11.2 then(some ([],false,0,y9.2)) else(bi (getZ s.Nodes y11.1) fun x15=>some (x15.Key,true,0,y9.2))))
def Ler(k:Nat)(l:List Int)(al:List Bool):Option (Bool×(List Bool)):=
 bi (Kzi k (⟨l,0⟩:Kxc) 4 4) fun y1=>bi (Kyf y1.2 0 8) fun y3=>bi (Lad k y3.2 y3.1) fun y5=>bi (Ldu k y1.1 y5.1 al) fun y7=>bif (y7.2.1:Int) != 0 then(bi (bif ((y7.1.length:Int):Int)==0 then(bi (Lei k) fun y13=>some y13) else(some false)) fun q10=>some (q10,y7.2.2)) else(bi (rangeM (σ:=List Bool) (ρ:=Bool×(List Bool)) (fun i17 x19 s18=>bi (Lek k x19.Flow) fun y28=>bi (Lem k y1.1 x19.Flow s18) fun y30=>bi (Lem k y1.1 y28.1 y30.2.2) fun y32=>bi (bif ((((y28.2:Int) != 0)||((y30.2.1:Int) != 0))||((y32.2.1:Int) != 0)) then(some true) else(bi (Leo y7.1 (i17:Int)) fun y38=>some (y38&&((y30.1||y32.1)||x19.Out)))) fun q34=>bif q34 then(bi (some (false,y32.2.2)) fun v=>some (.out v)) else(bi (Leq k y1.1 x19.Flow.To y32.2.2) fun y44=>bi (bif ((((!x19.Out)&&((y44.1:Str)==x19.Node))&&(!y30.1))&&(!y32.1)) then(bi (Leo y7.1 (i17:Int)) fun y49=>some (!y49)) else(some false)) fun q46=>bif q46 then(bi (some (false,y44.2.2.2)) fun v=>some (.out v)) else(some (.go y44.2.2.2)))) 0 y5.1 y7.2.2) fun q=>goI q fun a22=>bi (Lei k) fun y56=>some (y56,a22))
end
end Go.Gk
