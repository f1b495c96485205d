import Derived.Test.YtmecneoeklldeaaGreatDoorMStrN
set_option linter.unusedVariables false
namespace Go.Gk
noncomputable section
structure Kxb where
 L:List Int
 v_at:Int
 deriving DecidableEq
structure Kxc where
 Kind:Int
 Number:Int
 Words:Str
 Version:(Int×Int×Int×Int)
 deriving DecidableEq
structure Kxd where
 At:Int
 Node:Str
 Name:Str
 Value:Kxc
 deriving DecidableEq
structure Kxe where
 kind:Str
 v_at:Int
 v_end:Int
 name:Str
 value:Kxc
 deriving DecidableEq
structure Kxf where
 kind:Str
 v_at:Int
 name:Str
 value:Kxc
 deriving DecidableEq
structure Kxg where
 s:Str
 v_at:Int
 v_next:Kxf
 fault:Int
 deriving DecidableEq
structure Kxh where
 s:Str
 tok:Kxe
 bad:Bool
 v_at:Int
 deriving DecidableEq
structure Kxi where
 Kind:Int
 Name:Str
 Op:Str
 Value:Kxc
 Kids:KD
abbrev Kxj(x:Kxi):List D:=[.v (.int .i64 x.Kind),.v (.string ⟨x.Name.toArray⟩),.v (.string ⟨x.Op.toArray⟩),.v (.int .i64 x.Value.Kind),.v (.int .i64 x.Value.Number),.v (.string ⟨x.Value.Words.toArray⟩),.v (.int .i64 x.Value.Version.1),.v (.int .i64 x.Value.Version.2.1),.v (.int .i64 x.Value.Version.2.2.1),.v (.int .i64 x.Value.Version.2.2.2),.ro x.Kids.n x.Kids.xs]
def d_api_Cond:List D→Option Kxi
 | [c0,c1,c2,c3,c4,c5,c6,c7,c8,c9,c10]=>bi (rdI .i64 c0) fun y0=>bi (rdS c1) fun y1=>bi (rdS c2) fun y2=>bi (rdI .i64 c3) fun y3=>bi (rdI .i64 c4) fun y4=>bi (rdS c5) fun y5=>bi (rdI .i64 c6) fun y6=>bi (rdI .i64 c7) fun y7=>bi (rdI .i64 c8) fun y8=>bi (rdI .i64 c9) fun y9=>bi (rdK c10) fun y10=>some (⟨y0,y1,y2,(⟨y3,y4,y5,(y6,y7,y8,y9)⟩:Kxc),y10⟩:Kxi)
 | _=>none
theorem Lar:DecOk Kxj d_api_Cond:=by
 intro ds x h
 unfold d_api_Cond at h
 split at h
 ·obtain⟨y0,hy0,h⟩:=Kgg h
  obtain⟨y1,hy1,h⟩:=Kgg h
  obtain⟨y2,hy2,h⟩:=Kgg h
  obtain⟨y3,hy3,h⟩:=Kgg h
  obtain⟨y4,hy4,h⟩:=Kgg h
  obtain⟨y5,hy5,h⟩:=Kgg h
  obtain⟨y6,hy6,h⟩:=Kgg h
  obtain⟨y7,hy7,h⟩:=Kgg h
  obtain⟨y8,hy8,h⟩:=Kgg h
  obtain⟨y9,hy9,h⟩:=Kgg h
  obtain⟨y10,hy10,h⟩:=Kgg h
  obtain rfl:=Klx hy0
  obtain rfl:=Kly hy1
  obtain rfl:=Kly hy2
  obtain rfl:=Klx hy3
  obtain rfl:=Klx hy4
  obtain rfl:=Kly hy5
  obtain rfl:=Klx hy6
  obtain rfl:=Klx hy7
  obtain rfl:=Klx hy8
  obtain rfl:=Klx hy9
  obtain rfl:=Klz hy10
  cases h
  rfl
 cases h
theorem Las(x:Kxi):d_api_Cond (Kxj x)=some x:=by
 cases x
 simp[Kxj,d_api_Cond]
def Kxk(x:Int)(n:Int):Option Int:=
 bif decide ((n:Int)<1) then(some 0) else(bi (remZ x n) fun y3=>bi (bif decide ((y3:Int)<0) then(some (wi (y3+n))) else(some y3)) fun q5=>some q5)
def Kxl(s:Kxb)(n:Int):Option (Int×Kxb):=
 bif ((s.L.length:Int):Int)==0 then(bi (Kxk (wi ((wi (s.v_at+1)) * 7919)) n) fun y2=>some (y2,(⟨s.L,wi (s.v_at+1)⟩:Kxb))) else(bi (remZ (wi ((wi (s.v_at+1)) - 1)) (s.L.length:Int)) fun y5=>bi (divZ .i64 (wi ((wi (s.v_at+1)) - 1)) (s.L.length:Int)) fun y7=>bi (getZ s.L y5) fun x9=>bi (Kxk x9 1073741824) fun y11=>bi (Kxk (wi (y11+(wi (y7 * (wi (7919+y5)))))) n) fun y13=>some (y13,(⟨s.L,wi (s.v_at+1)⟩:Kxb)))
def Kxm(s:Kxb)(low:Int)(high:Int):Option (Int×Kxb):=
 bif decide ((high:Int)<low) then(some (low,s)) else(bi (Kxl s (wi ((wi (high - low))+1))) fun y3=>some (wi (low+y3.1),y3.2))
def Kxn(s:Kxb)(n:Int):Option (Bool×Kxb):=
 bi (Kxl s n) fun y1=>some ((y1.1:Int)==0,y1.2)
def Kxo(s:Kxb)(l:List Str):Option (Str×Kxb):=
 bi (Kxl s (l.length:Int)) fun y1=>bi (getZ l y1.1) fun x3=>some (x3,y1.2)
def Kxp(s:Kxb)(l:List Int):Option (Int×Kxb):=
 bi (Kxl s (l.length:Int)) fun y1=>bi (getZ l y1.1) fun x3=>some (x3,y1.2)
def Kxq(s:Kxb)(low:Int)(high:Int):Option (Int×Kxb):=
 bi (Kxn s 12) fun y1=>bif y1.1 then(bi (Kxp y1.2 [wi (low - 1),wi (high+1),low,high,-1099511627776,1099511627776]) fun y4=>some (y4.1,y4.2)) else(bi (Kxm y1.2 low high) fun y7=>some (y7.1,y7.2))
def Kxr(s:Kxb):Option (Kxc×Kxb):=
 bi (Kxp s [1,1,2,2,3,4]) fun y1=>bi (bif (y1.1:Int)==1 then(bi (Kxp y1.2 [0,5,12,-3,100000000]) fun y6=>some (y6.2,(⟨y1.1,y6.1,[],(0,0,0,0)⟩:Kxc))) else(bif (y1.1:Int)==2 then(bi (Kxo y1.2 [[108,105,110,117,120],[109,97,99],[],[97,32,34,98,92],[119,105,110]]) fun y10=>some (y10.2,(⟨y1.1,0,y10.1,(0,0,0,0)⟩:Kxc))) else(bif (y1.1:Int)==3 then(bi (Kxl y1.2 2) fun y14=>some (y14.2,(⟨y1.1,y14.1,[],(0,0,0,0)⟩:Kxc))) else(bi (Kxp y1.2 [0,2,12]) fun y17=>bi (Kxp y17.2 [0,3]) fun y19=>some (y19.2,(⟨y1.1,0,[],(1,y17.1,y19.1,0)⟩:Kxc)))))) fun q3=>bi (Kxn q3.1 60) fun y21=>bi (bif y21.1 then(bi (Kxq y21.2 0 1) fun y26=>bi (Kpj [119] 101) fun y28=>bi (Kxo y26.2 [[],[120],[195,169],y28]) fun y30=>some (y30.2,(⟨q3.2.Kind,y26.1,y30.1,q3.2.Version⟩:Kxc))) else(some (y21.2,q3.2))) fun q23=>some (q23.2,q23.1)
def Kxs(s:Kxb)(many:Int):Option ((List Kxd)×Kxb):=
 bi (Kxl s 5) fun y1=>bi (gd (decide (many≤9223372036854775807)) (rangeG (σ:=Kxb×(List Kxd)×Int) (fun i3 s4=>bi (rangeF (σ:=Kxb×(List Kxd)) (fun i15 x17 s16=>bi (rangeF (σ:=Kxb×(List Kxd)) (fun i26 x28 s27=>bi (Kxn s27.1 4) fun y37=>bif !y37.1 then(some (y37.2,s27.2)) else(bi (bif (x28:Str)==[100,105,115,107] then(bi (Kxl y37.2 2) fun y44=>some (y44.2,(⟨s4.2.2,x17,x28,(⟨3,y44.1,[],(0,0,0,0)⟩:Kxc)⟩:Kxd))) else(bif (x28:Str)==[111,115] then(bi (Kxo y37.2 [[108,105,110,117,120],[108,105,110,117,120],[109,97,99]]) fun y48=>some (y48.2,(⟨s4.2.2,x17,x28,(⟨2,0,y48.1,(0,0,0,0)⟩:Kxc)⟩:Kxd))) else(bi (Kxp y37.2 [2,12]) fun y51=>some (y51.2,(⟨s4.2.2,x17,x28,(⟨4,0,[],(1,y51.1,0,0)⟩:Kxc)⟩:Kxd))))) fun q41=>bi (Kxn q41.1 15) fun y53=>bi (bif y53.1 then(bi (Kxr y53.2) fun y58=>some (y58.2,(⟨q41.2.At,q41.2.Node,q41.2.Name,y58.1⟩:Kxd))) else(some (y53.2,q41.2))) fun q55=>bi (apd s27.2 [q55.2]) fun y61=>some (q55.1,y61))) 0 [[100,105,115,107],[111,115],[118,101,114,115,105,111,110]] (s16.1,s16.2)) fun q29=>some (q29.1,q29.2)) 0 [[110,97],[110,98]] (s4.1,s4.2.1)) fun q18=>bi (Kxp q18.1 [1,5,20,60]) fun y63=>some (y63.2,q18.2,wi (s4.2.2+y63.1))) many (y1.2,([]:List Kxd),y1.1))) fun q6=>bi (Kxn q6.1 20) fun y65=>bi (bif y65.1 then(bi (Kxq y65.2 0 1000) fun y70=>bi (Kxo y70.2 [[],[110,97]]) fun y72=>bi (Kxo y72.2 [[111,115],[65]]) fun y74=>bi (Kxr y74.2) fun y76=>bi (apd q6.2.1 [(⟨y70.1,y72.1,y74.1,y76.1⟩:Kxd)]) fun y78=>some (y76.2,y78)) else(some (y65.2,q6.2.1))) fun q67=>some (q67.2,q67.1)
def Kxt(n:Int):Option Bool:=
 some ((decide ((n:Int)≥0))&&(decide ((n:Int)<345686400)))
def Kxu(k:Nat)(s:Str):Option Bool:=
 bi (loopM (σ:=Int) (ρ:=Unit ⊕ Bool) (fun s2=>bif decide ((s2:Int)<(s.length:Int)) then(bi (getZ s s2) fun c12=>bif !(((decide (((c12.toNat:Int):Int)≥97))&&(decide (((c12.toNat:Int):Int)≤122)))||((decide ((s2:Int)>0))&&((((decide (((c12.toNat:Int):Int)≥48))&&(decide (((c12.toNat:Int):Int)≤57)))||(((c12.toNat:Int):Int)==45))||(((c12.toNat:Int):Int)==95)))) then(bi (some false) fun v=>some (.out (.inr v))) else(some (.go (wi (s2+1))))) else(some (.out (.inl ())))) k 0) fun q=>orI q fun a6=>some ((!((s:Str)==[]))&&(decide (((s.length:Int):Int)≤40)))
def Kxv(n:Int)(low:Int)(high:Int):Option Bool:=
 some ((decide ((n:Int)<low))||(decide ((n:Int)>high)))
def Kxw(s:Str):Option Bool:=
 bi (gd (decide ((s.length:Int)≤9223372036854775807)) (rangeI (σ:=Unit) (ρ:=Bool) (fun i1 s2=>bi (getZ s (i1:Int)) fun c13=>bi (bif decide (((c13.toNat:Int):Int)<32) then(some true) else(bi (getZ s (i1:Int)) fun c19=>some (decide (((c19.toNat:Int):Int)>126)))) fun q15=>bif q15 then(bi (some false) fun v=>some (.out v)) else(some (.go ()))) (s.length:Int) ())) fun q=>goI q fun a6=>some (decide (((s.length:Int):Int)≤100))
def Kxx(k:Nat)(a:Kxc):Option Int:=
 bi (Kxv a.Kind 1 4) fun y1=>bif y1 then(some 4) else(bi (bif (a.Kind:Int)==1 then(bi (Kxv a.Number (-100000000) 100000000) fun y8=>some y8) else(some false)) fun q5=>bi (bif q5 then(some true) else(bi (bif (a.Kind:Int)==3 then(bi (Kxv a.Number 0 1) fun y18=>some y18) else(some false)) fun q15=>some q15)) fun q11=>bif q11 then(some 1) else(bif ((((a.Kind:Int) != 1)&&((a.Kind:Int) != 3))&&((a.Number:Int) != 0)) then(some 3) else(bi (bif (a.Kind:Int)==2 then(bi (Kxw a.Words) fun y28=>some (!y28)) else(some false)) fun q25=>bif (q25||(((a.Kind:Int) != 2)&&(!((a.Words:Str)==[])))) then(some 3) else(bi (loopM (σ:=Int) (ρ:=Unit ⊕ Int) (fun s34=>bif decide ((s34:Int)<4) then(bi (getZ ([a.Version.1,a.Version.2.1,a.Version.2.2.1,a.Version.2.2.2]:List Int) s34) fun x44=>bi (bif (a.Kind:Int)==4 then(bi (Kxv x44 0 1000000) fun y49=>some y49) else(some false)) fun q46=>bif q46 then(bi (some 1) fun v=>some (.out (.inr v))) else(bif (((a.Kind:Int) != 4)&&((x44:Int) != 0)) then(bi (some 3) fun v=>some (.out (.inr v))) else(some (.go (wi (s34+1)))))) else(some (.out (.inl ())))) k 0) fun q=>orI q fun a38=>some 0))))
def Kxy(x:Int):Option Bool:=
 some ((x:Int) != x)
def Kxz(x:Int)(y:Int):Option Int:=
 bi (Kxy x) fun y1=>bi (Kxy y) fun y3=>bif y1 then(bif y3 then(some 0) else(some (-1))) else(bif y3 then(some 1) else(bif decide ((x:Int)<y) then(some (-1)) else(bif decide ((x:Int)>y) then(some 1) else(some 0))))
def Kya(vals:List Int):Option Int:=
 bi (rangeM (σ:=Unit) (ρ:=Int) (fun i1 x3 s2=>bif (x3:Int) != 0 then(bi (some x3) fun v=>some (.out v)) else(some (.go ()))) 0 vals ()) fun q=>goI q fun a6=>some 0
def Kyb(a:Kxd)(b:Kxd):Option Int:=
 bi (Kxz a.At b.At) fun y1=>bi (Kpo a.Node b.Node) fun y3=>bi (Kpo a.Name b.Name) fun y5=>bi (Kya [y1,y3,y5]) fun y7=>some y7
def Kyc(k:Nat)(l:List Kxd):Option Int:=
 bif decide (((l.length:Int):Int)>2000) then(some 2) else(bi (rangeM (σ:=Unit) (ρ:=Int) (fun i3 x5 s4=>bi (Kxt x5.At) fun y14=>bif !y14 then(bi (some 1) fun v=>some (.out v)) else(bi (Kxu k x5.Node) fun y20=>bi (bif !y20 then(some true) else(bi (Kxu k x5.Name) fun y26=>some (!y26))) fun q22=>bif q22 then(bi (some 5) fun v=>some (.out v)) else(bi (Kxx k x5.Value) fun y32=>bif (y32:Int) != 0 then(bi (some y32) fun v=>some (.out v)) else(bi (bif decide (((i3:Int):Int)>0) then(bi (getZ l (wi ((i3:Int) - 1))) fun x41=>bi (Kyb x41 x5) fun y43=>some (decide ((y43:Int)≥0))) else(some false)) fun q38=>bif q38 then(bi (some 7) fun v=>some (.out v)) else(some (.go ())))))) 0 l ()) fun q=>goI q fun a8=>some 0)
def Kyd(b:Bool):Option Str:=
 bif b then(some [116,114,117,101]) else(some [102,97,108,115,101])
def Kye(b:Bool):Option Str:=
 bi (Kyd b) fun y1=>some y1
def rpM(s:Str):Str:=s.flatMap fun c=>if c=92 then[92,92] else if c=34 then[92,34] else[c]
def Kyf(k:Nat)(a:Kxc):Option Str:=
 bif (a.Kind:Int)==1 then(bi (Kpq a.Number) fun y2=>some y2) else(bif (a.Kind:Int)==2 then none else(bif (a.Kind:Int)==3 then(bi (Kye ((a.Number:Int)==1)) fun y8=>some y8) else(bi (loopM (σ:=(List Str)×Int) (ρ:=List Str) (fun s12=>bif decide ((s12.2:Int)<4) then(bi (getZ ([a.Version.1,a.Version.2.1,a.Version.2.2.1,a.Version.2.2.2]:List Int) s12.2) fun x22=>bi (Kpq x22) fun y24=>bi (apd s12.1 [y24]) fun y26=>some (.go (y26,wi (s12.2+1)))) else(some (.out s12.1))) k (([]:List Str),0)) fun q14=>bi (Kpt q14 [46]) fun y29=>bi (catZ [118] y29) fun y31=>some y31)))
def Kyg(k:Nat)(a:Kxc):Option Str:=
 bif (a.Kind:Int)==2 then(gd (Nat.ble a.Words.length 1099511627776) (some (34 :: (rpM a.Words++[34])))) else Kyf k a
def Kyh(b:Str)(s:Str):Option (Int×Str):=
 bi (Kli b) fun y1=>bi (apd b s) fun y3=>some ((s.length:Int),y3)
def Kyi(b:Str):Option Int:=
 some (b.length:Int)
def Kyj(k:Nat)(l:List Kxd):Option (Str×Int):=
 bi (Kyc k l) fun y1=>bif (y1:Int) != 0 then(some ([],y1)) else(bi (rangeF (σ:=List UInt8) (fun i5 x7 s6=>bi (Kpq x7.At) fun y16=>bi (catZ y16 [32]) fun y18=>bi (catZ y18 x7.Node) fun y20=>bi (catZ y20 [32]) fun y22=>bi (catZ y22 x7.Name) fun y24=>bi (catZ y24 [32]) fun y26=>bi (Kyg k x7.Value) fun y28=>bi (catZ y26 y28) fun y30=>bi (catZ y30 [10]) fun y32=>bi (Kyh s6 y32) fun y34=>some y34.2) 0 l ([]:Str)) fun q8=>bi (Kyi q8) fun y36=>bif decide ((y36:Int)>200000) then(some ([],2)) else(bi (Klj q8) fun y40=>some (y40,0)))
def Kyk(n:Int)(low:Int)(high:Int):Option Bool:=
 some ((decide ((low:Int)≤n))&&(decide ((n:Int)≤high)))
def Kyl(v_at:Int):Option Bool:=
 bi (Kyk v_at 0 345686399) fun y1=>some y1
def Kym(s:Str)(v_some:Str):Option Bool:=
 bi (Kph s v_some) fun y1=>some ((y1:Str)==[])
def Kyn(s:Str):Option Bool:=
 bi (Kyk (s.length:Int) 1 40) fun y1=>bi (bif y1 then(bi (subZ s 0 1) fun z6=>bi (Kym z6 [97,98,99,100,101,102,103,104,105,106,107,108,109,110,111,112,113,114,115,116,117,118,119,120,121,122]) fun y8=>some y8) else(some false)) fun q3=>bi (bif q3 then(bi (Kym s [97,98,99,100,101,102,103,104,105,106,107,108,109,110,111,112,113,114,115,116,117,118,119,120,121,122,48,49,50,51,52,53,54,55,56,57,45,95]) fun y14=>some y14) else(some false)) fun q11=>some q11
def Kyo(n:Int)(low:Int)(high:Int):Option Bool:=
 some ((decide ((low:Int)≤n))&&(decide ((n:Int)≤high)))
def Kyp(k:Nat)(a:Kxc):Option Int:=
 bi (Kyo a.Kind 1 4) fun y1=>bif !y1 then(some 4) else(bi (bif (a.Kind:Int)==1 then(bi (Kyo a.Number (-100000000) 100000000) fun y8=>some (!y8)) else(some false)) fun q5=>bi (bif q5 then(some true) else(bi (bif (a.Kind:Int)==3 then(bi (Kyo a.Number 0 1) fun y18=>some (!y18)) else(some false)) fun q15=>some q15)) fun q11=>bif q11 then(some 1) else(bif ((((a.Kind:Int) != 1)&&((a.Kind:Int) != 3))&&((a.Number:Int) != 0)) then(some 3) else(bif ((((a.Kind:Int) != 2)&&(!((a.Words:Str)==[])))||(decide (((a.Words.length:Int):Int)>100))) then(some 3) else(bi (gd (decide ((a.Words.length:Int)≤9223372036854775807)) (rangeI (σ:=Unit) (ρ:=Int) (fun i27 s28=>bi (getZ a.Words (i27:Int)) fun c39=>bi (Kyo (wi ((c39.toNat:Int))) 32 126) fun y41=>bif !y41 then(bi (some 3) fun v=>some (.out v)) else(some (.go ()))) (a.Words.length:Int) ())) fun q=>goI q fun a32=>bi (loopM (σ:=Int) (ρ:=Unit ⊕ Int) (fun s48=>bif decide ((s48:Int)<4) then(bi (getZ ([a.Version.1,a.Version.2.1,a.Version.2.2.1,a.Version.2.2.2]:List Int) s48) fun x58=>bi (bif (a.Kind:Int)==4 then(bi (Kyo x58 0 1000000) fun y63=>some (!y63)) else(some false)) fun q60=>bif q60 then(bi (some 1) fun v=>some (.out (.inr v))) else(some (.go (wi (s48+1))))) else(some (.out (.inl ())))) k 0) fun q=>orI q fun a52=>bif (((a.Kind:Int) != 4)&&(!decide (([a.Version.1,a.Version.2.1,a.Version.2.2.1,a.Version.2.2.2]:List Int)=([0,0,0,0]:List Int)))) then(some 3) else(some 0)))))
def Kyq(a:Kxd)(b:Kxd):Option Int:=
 bi (Kxz a.At b.At) fun y1=>bi (Kpo a.Node b.Node) fun y3=>bi (Kpo a.Name b.Name) fun y5=>bi (Kya [y1,y3,y5]) fun y7=>some y7
def Kyr(k:Nat)(l:List Kxd):Option Int:=
 bif decide (((l.length:Int):Int)>2000) then(some 2) else(bi (rangeM (σ:=Unit) (ρ:=Int) (fun i3 x5 s4=>bi (Kyl x5.At) fun y14=>bif !y14 then(bi (some 1) fun v=>some (.out v)) else(bi (Kyn x5.Node) fun y20=>bi (bif !y20 then(some true) else(bi (Kyn x5.Name) fun y26=>some (!y26))) fun q22=>bif q22 then(bi (some 5) fun v=>some (.out v)) else(bi (Kyp k x5.Value) fun y32=>bif (y32:Int) != 0 then(bi (some y32) fun v=>some (.out v)) else(bi (bif decide (((i3:Int):Int)>0) then(bi (getZ l (wi ((i3:Int) - 1))) fun x41=>bi (Kyq x41 x5) fun y43=>some (decide ((y43:Int)≥0))) else(some false)) fun q38=>bif q38 then(bi (some 7) fun v=>some (.out v)) else(some (.go ())))))) 0 l ()) fun q=>goI q fun a8=>some 0)
def Kys(k:Nat)(a:Kxc):Option Str:=
 bif (a.Kind:Int)==1 then(bi (Kpq a.Number) fun y2=>some y2) else(bif (a.Kind:Int)==3 then(bi (getZ [[102,97,108,115,101],[116,114,117,101]] a.Number) fun x6=>some x6) else(bif (a.Kind:Int)==4 then(bi (loopM (σ:=(List Str)×Int) (ρ:=List Str) (fun s11=>bif decide ((s11.2:Int)<4) then(bi (getZ ([a.Version.1,a.Version.2.1,a.Version.2.2.1,a.Version.2.2.2]:List Int) s11.2) fun x21=>bi (Kpq x21) fun y23=>bi (apd s11.1 [y23]) fun y25=>some (.go (y25,wi (s11.2+1)))) else(some (.out s11.1))) k (([]:List Str),0)) fun q13=>bi (Kpt q13 [46]) fun y28=>bi (catZ [118] y28) fun y30=>some y30) else(bi (Kpw a.Words [92] [92,92]) fun y33=>bi (Kpw y33 [34] [92,34]) fun y35=>bi (catZ [34] y35) fun y37=>bi (catZ y37 [34]) fun y39=>some y39)))
def Kyt(k:Nat)(l:List Kxd):Option Str:=
 bi (rangeF (σ:=List UInt8) (fun i1 x3 s2=>bi (Kpq x3.At) fun y12=>bi (catZ y12 [32]) fun y14=>bi (catZ y14 x3.Node) fun y16=>bi (catZ y16 [32]) fun y18=>bi (catZ y18 x3.Name) fun y20=>bi (catZ y20 [32]) fun y22=>bi (Kys k x3.Value) fun y24=>bi (catZ y22 y24) fun y26=>bi (catZ y26 [10]) fun y28=>bi (Kyh s2 y28) fun y30=>some y30.2) 0 l ([]:Str)) fun q4=>bi (Klj q4) fun y32=>some y32
def Kyu(s:Kxb)(t:Str)(v_with:Str):Option (Str×Kxb):=
 bif (((t:Str)==[])||((v_with:Str)==[])) then(some (v_with,s)) else(bi (Kxl s (t.length:Int)) fun y3=>bi (Kxl y3.2 (v_with.length:Int)) fun y5=>bi (getZ v_with y5.1) fun c7=>bi (Kxl y5.2 3) fun y9=>bif (y9.1:Int)==0 then(bi (subZ t 0 y3.1) fun z12=>bi (catZ z12 (runeS (IntKind.i32.wrap ((c7.toNat:Int))))) fun y14=>bi (subZ t (wi (y3.1+1)) (t.length:Int)) fun z16=>bi (catZ y14 z16) fun y18=>some (y18,y9.2)) else(bif (y9.1:Int)==1 then(bi (subZ t 0 y3.1) fun z22=>bi (catZ z22 (runeS (IntKind.i32.wrap ((c7.toNat:Int))))) fun y24=>bi (subZ t y3.1 (t.length:Int)) fun z26=>bi (catZ y24 z26) fun y28=>some (y28,y9.2)) else(bi (subZ t 0 y3.1) fun z31=>bi (subZ t (wi (y3.1+1)) (t.length:Int)) fun z33=>bi (catZ z31 z33) fun y35=>some (y35,y9.2))))
def Kyv(k:Nat)(s:Kxb):Option (Str×Kxb):=
 bi (Kxm s 0 3) fun y1=>bi (Kxs y1.2 y1.1) fun y3=>bi (Kyr k y3.1) fun y5=>bi (bif (y5:Int)==0 then(bi (Kyt k y3.1) fun y10=>some y10) else(some [53,32,110,97,32,111,115,32,34,108,105,110,117,120,34,10])) fun q7=>bi (Kxp y3.2 [0,0,1,2]) fun y13=>bi (gd (decide (y13.1≤9223372036854775807)) (rangeG (σ:=Kxb×Str) (fun i15 s16=>bi (Kyu s16.1 s16.2 [32,10,34,118,46,48,116]) fun y27=>some (y27.2,y27.1)) y13.1 (y13.2,q7))) fun q18=>some (q18.2,q18.1)
def Kyw(s:Str):Option ((List Str)×Bool):=
 bi (Kpi s [10]) fun y1=>bi (getZ y1 (wi ((y1.length:Int) - 1))) fun x3=>bif (x3:Str)==[] then(bi (subZ y1 0 (wi ((y1.length:Int) - 1))) fun z6=>some (z6,true)) else(some (y1,false))
def Kyx(s:List Str)(v:Str):Option Int:=
 bi (rangeM (σ:=Unit) (ρ:=Int) (fun i1 x3 s2=>bif (v:Str)==x3 then(bi (some (i1:Int)) fun v=>some (.out v)) else(some (.go ()))) 0 s ()) fun q=>goI q fun a6=>some (-1)
def Kyy(s:List Str)(v:Str):Option Bool:=
 bi (Kyx s v) fun y1=>some (decide ((y1:Int)≥0))
def Kyz(k:Nat)(s:Str)(most:Int):Option (Int×Bool):=
 bi (Kpe s [45]) fun y1=>bi (bif (((y1:Str)==[])||(decide (((y1.length:Int):Int)>most))) then(some true) else(bi (getZ y1 0) fun c7=>some ((((c7.toNat:Int):Int)==48)&&(!((s:Str)==[48]))))) fun q3=>bif q3 then(some (0,false)) else(bi (loopM (σ:=Int) (ρ:=Unit ⊕ (Int×Bool)) (fun s12=>bif decide ((s12:Int)<(y1.length:Int)) then(bi (getZ y1 s12) fun c22=>bi (bif decide (((c22.toNat:Int):Int)<48) then(some true) else(bi (getZ y1 s12) fun c28=>some (decide (((c28.toNat:Int):Int)>57)))) fun q24=>bif q24 then(bi (some (0,false)) fun v=>some (.out (.inr v))) else(some (.go (wi (s12+1))))) else(some (.out (.inl ())))) k 0) fun q=>orI q fun a16=>bi (Kpu s) fun y35=>some (y35,true))
def Kza(k:Nat)(s:Str):Option (Int×Bool):=
 bi (Kyz k s 9) fun y1=>some (y1.1,y1.2)
def Kzb(c:Int):Option Bool:=
 some ((decide ((c:Int)≥48))&&(decide ((c:Int)≤57)))
def Kzc(k:Nat)(s:Str)(v_at:Int):Option Int:=
 bi (loopM (σ:=Int) (ρ:=Int) (fun s2=>bi (bif decide ((s2:Int)<(s.length:Int)) then(bi (getZ s s2) fun c14=>bi (Kzb (c14.toNat:Int)) fun y16=>some y16) else(some false)) fun q11=>bif q11 then(some (.go (wi (s2+1)))) else(some (.out s2))) k v_at) fun q4=>some q4
def Kzd(k:Nat)(t:Kxe)(s:Str):Option Kxe:=
 bi (getZ s t.v_at) fun c1=>bi (bif ((c1.toNat:Int):Int)==45 then(some (wi (t.v_at+1))) else(some t.v_at)) fun q3=>bi (Kzc k s q3) fun y7=>bi (subZ s t.v_at y7) fun z9=>bi (Kza k z9) fun y11=>bif y11.2 then(some (⟨[118,97,108,117,101],t.v_at,y7,t.name,(⟨1,y11.1,[],(0,0,0,0)⟩:Kxc)⟩:Kxe)) else(some (⟨t.kind,t.v_at,y7,t.name,t.value⟩:Kxe))
def Kze(k:Nat)(t:Kxe)(s:Str):Option Kxe:=
 bi (loopM (σ:=(List Int)×Int) (ρ:=(List Int) ⊕ Kxe) (fun s2=>bif decide ((s2.2:Int)<(s.length:Int)) then(bi (getZ s s2.2) fun c12=>bi (bif ((c12.toNat:Int):Int)==34 then(bi (strB s2.1) fun y18=>bi (bi (some (⟨[118,97,108,117,101],t.v_at,wi (s2.2+1),t.name,(⟨2,0,y18,(0,0,0,0)⟩:Kxc)⟩:Kxe)) fun v=>some (.out (.inr v))) fun v=>some (.inr v)) else(bif ((decide (((c12.toNat:Int):Int)<32))||(decide (((c12.toNat:Int):Int)>126))) then(bi (bi (some t) fun v=>some (.out (.inr v))) fun v=>some (.inr v)) else(bif ((c12.toNat:Int):Int)==92 then(bi (bif (wi (s2.2+1):Int)==(s.length:Int) then(some true) else(bi (getZ s (wi (s2.2+1))) fun c36=>bi (bif ((c36.toNat:Int):Int) != 34 then(bi (getZ s (wi (s2.2+1))) fun c41=>some (((c41.toNat:Int):Int) != 92)) else(some false)) fun q38=>some q38)) fun q32=>bif q32 then(bi (bi (some t) fun v=>some (.out (.inr v))) fun v=>some (.inr v)) else(bi (getZ s (wi (s2.2+1))) fun c50=>some (.inl (wi (s2.2+1),(c50.toNat:Int))))) else(some (.inl (s2.2,(c12.toNat:Int)))))):Option ((Int×Int) ⊕ (LS ((List Int)×Int) ((List Int) ⊕ Kxe)))) fun q=>orI q fun a16=>bi (apd s2.1 [a16.2]) fun y53=>some (.go (y53,wi (a16.1+1)))) else(some (.out (.inl s2.1)))) k (([]:List Int),wi (t.v_at+1))) fun q=>orI q fun a6=>some t
def Kzf(s:Str):Option Bool:=
 bi (bif decide (((s.length:Int):Int)>1) then(bi (getZ s 0) fun c4=>some (((c4.toNat:Int):Int)==118)) else(some false)) fun q1=>bi (bif q1 then(bi (getZ s 1) fun c10=>bi (Kzb (c10.toNat:Int)) fun y12=>some y12) else(some false)) fun q7=>some q7
def Kzg(k:Nat)(l:List Str):Option ((List Int)×Bool):=
 bi (rangeM (σ:=List Int) (ρ:=(List Int)×Bool) (fun i1 x3 s2=>bi (Kza k x3) fun y12=>bif !y12.2 then(bi (some ([],false)) fun v=>some (.out v)) else(bi (apd s2 [y12.1]) fun y18=>some (.go y18))) 0 l ([]:List Int)) fun q=>goI q fun a6=>some (a6,true)
def Kzh(k:Nat)(t:Kxe)(s:Str):Option Kxe:=
 bi (loopM (σ:=Int) (ρ:=Int) (fun s2=>bi (bif decide ((s2:Int)<(s.length:Int)) then(bi (getZ s s2) fun c14=>bi (Kzb (c14.toNat:Int)) fun y16=>bi (bif y16 then(some true) else(bi (getZ s s2) fun c22=>some (((c22.toNat:Int):Int)==46))) fun q18=>some q18) else(some false)) fun q11=>bif q11 then(some (.go (wi (s2+1)))) else(some (.out s2))) k (wi (t.v_at+1))) fun q4=>bi (subZ s (wi (t.v_at+1)) q4) fun z27=>bi (Kpi z27 [46]) fun y29=>bi (Kzg k y29) fun y31=>bif ((!y31.2)||(decide (((y29.length:Int):Int)>4))) then(some (⟨t.kind,t.v_at,q4,t.name,t.value⟩:Kxe)) else(some (⟨[118,97,108,117,101],t.v_at,q4,t.name,(⟨4,0,[],(cpA (0:Int).toNat y31.1 0 0,cpA (0:Int).toNat y31.1 1 0,cpA (0:Int).toNat y31.1 2 0,cpA (0:Int).toNat y31.1 3 0)⟩:Kxc)⟩:Kxe))
def Kzi(c:Int):Option Bool:=
 bi (bif ((decide ((c:Int)≥97))&&(decide ((c:Int)≤122))) then(some true) else(bi (Kzb c) fun y5=>some y5)) fun q1=>some ((q1||((c:Int)==45))||((c:Int)==95))
def Kzj(k:Nat)(t:Kxe)(s:Str):Option Kxe:=
 bi (loopM (σ:=Int) (ρ:=Int) (fun s2=>bi (bif decide ((s2:Int)<(s.length:Int)) then(bi (getZ s s2) fun c14=>bi (Kzi (c14.toNat:Int)) fun y16=>some y16) else(some false)) fun q11=>bif q11 then(some (.go (wi (s2+1)))) else(some (.out s2))) k t.v_at) fun q4=>bi (subZ s t.v_at q4) fun z21=>bif (((z21:Str)==[116,114,117,101])||((z21:Str)==[102,97,108,115,101])) then(bif (z21:Str)==[116,114,117,101] then(some (⟨[118,97,108,117,101],t.v_at,q4,z21,(⟨3,1,[],(0,0,0,0)⟩:Kxc)⟩:Kxe)) else(some (⟨[118,97,108,117,101],t.v_at,q4,z21,(⟨3,0,[],(0,0,0,0)⟩:Kxc)⟩:Kxe))) else(some (⟨[110,97,109,101],t.v_at,q4,z21,t.value⟩:Kxe))
def Kzk(k:Nat)(s:Str)(v_at:Int):Option Kxe:=
 bif (v_at:Int)==(s.length:Int) then(some (⟨[101,110,100],v_at,0,[],(⟨0,0,[],(0,0,0,0)⟩:Kxc)⟩:Kxe)) else(bi (rangeM (σ:=Unit) (ρ:=Kxe) (fun i3 x5 s4=>bi (subZ s v_at (s.length:Int)) fun z14=>bi (Kpd z14 x5) fun y16=>bif y16 then(bi (some (⟨x5,v_at,wi (v_at+(x5.length:Int)),[],(⟨0,0,[],(0,0,0,0)⟩:Kxc)⟩:Kxe)) fun v=>some (.out v)) else(some (.go ()))) 0 [[61,61],[33,61],[60,61],[62,61],[38,38],[124,124],[60],[62],[33],[40],[41]] ()) fun q=>goI q fun a8=>bi (getZ s v_at) fun c22=>bi (bi (Kzb (c22.toNat:Int)) fun y26=>bi (bif y26 then(some true) else(bi (bif ((((c22.toNat:Int):Int)==45)&&(decide ((wi (v_at+1):Int)<(s.length:Int)))) then(bi (getZ s (wi (v_at+1))) fun c35=>bi (Kzb (c35.toNat:Int)) fun y37=>some y37) else(some false)) fun q32=>some q32)) fun q28=>bif q28 then(bi (Kzd k (⟨[98,97,100],v_at,0,[],(⟨0,0,[],(0,0,0,0)⟩:Kxc)⟩:Kxe) s) fun y41=>some y41) else(bif ((c22.toNat:Int):Int)==34 then(bi (Kze k (⟨[98,97,100],v_at,0,[],(⟨0,0,[],(0,0,0,0)⟩:Kxc)⟩:Kxe) s) fun y45=>some y45) else(bi (subZ s v_at (s.length:Int)) fun z48=>bi (Kzf z48) fun y50=>bif y50 then(bi (Kzh k (⟨[98,97,100],v_at,0,[],(⟨0,0,[],(0,0,0,0)⟩:Kxc)⟩:Kxe) s) fun y53=>some y53) else(bif ((decide (((c22.toNat:Int):Int)≥97))&&(decide (((c22.toNat:Int):Int)≤122))) then(bi (Kzj k (⟨[98,97,100],v_at,0,[],(⟨0,0,[],(0,0,0,0)⟩:Kxc)⟩:Kxe) s) fun y57=>some y57) else(some (⟨[98,97,100],v_at,0,[],(⟨0,0,[],(0,0,0,0)⟩:Kxc)⟩:Kxe)))))) fun q24=>some q24)
def Kzl(k:Nat)(s:Str):Option (Kxc×Bool):=
 bif (s:Str)==[] then(some ((⟨0,0,[],(0,0,0,0)⟩:Kxc),false)) else(bi (Kzk k s 0) fun y3=>bi (bif (y3.kind:Str)==[118,97,108,117,101] then(bif (y3.v_end:Int)==(s.length:Int) then(bi (Kyg k y3.value) fun y9=>some ((y9:Str)==s)) else(some false)) else(some false)) fun q5=>some (y3.value,q5))
def Kzm(k:Nat)(line:Str):Option (Kxd×Bool):=
 bi (Kpx line [32] 4) fun y1=>bi (bif ((y1.length:Int):Int) != 4 then(some true) else(bi (Kyy y1 []) fun y7=>some y7)) fun q3=>bif q3 then(some ((⟨0,[],[],(⟨0,0,[],(0,0,0,0)⟩:Kxc)⟩:Kxd),false)) else(bi (getZ y1 0) fun x11=>bi (Kza k x11) fun y13=>bi (getZ y1 3) fun x15=>bi (Kzl k x15) fun y17=>bi (bi (getZ y1 1) fun x21=>bi (getZ y1 2) fun x23=>bif y13.2 then(some ((⟨y13.1,x21,x23,y17.1⟩:Kxd),y17.2)) else(some ((⟨y13.1,x21,x23,y17.1⟩:Kxd),false))) fun q19=>some (q19.1,q19.2))
def Kzn(k:Nat)(text:Str):Option ((List Kxd)×Int×Int):=
 bif decide (((text.length:Int):Int)>200000) then(some ([],0,2)) else(bi (Kyw text) fun y3=>bi (rangeM (σ:=List Kxd) (ρ:=(List Kxd)×Int×Int) (fun i5 x7 s6=>bi (Kzm k x7) fun y16=>bif ((!y16.2)||((!y3.2)&&(((i5:Int):Int)==(wi ((y3.1.length:Int) - 1))))) then(bi (some ([],(i5:Int),9)) fun v=>some (.out v)) else(bi (apd s6 [y16.1]) fun y22=>some (.go y22))) 0 y3.1 ([]:List Kxd)) fun q=>goI q fun a10=>bi (Kyc k a10) fun y24=>bif (y24:Int) != 0 then(some ([],0,y24)) else(some (a10,0,0)))
def Kzo(s:Str)(most:Int):Option (Int×Bool):=
 bi (Kpe s [45]) fun y1=>bi (bif (((y1:Str)==[])||(decide (((y1.length:Int):Int)>most))) then(some true) else(bi (Kym y1 [48,49,50,51,52,53,54,55,56,57]) fun y7=>some (!y7))) fun q3=>bif q3 then(some (0,false)) else(bi (Kpu s) fun y11=>bi (Kpq y11) fun y13=>some (y11,(y13:Str)==s))
def Kzp(s:Str)(v_some:Str):Option Int:=
 bi (Kpv s v_some) fun y1=>some (wi ((s.length:Int) - (y1.length:Int)))
def Kzq(k:Nat)(s:Str):Option (Str×Int):=
 bi (loopM (σ:=Str×Int) (ρ:=Unit ⊕ (Str×Int)) (fun s2=>bif decide ((s2.2:Int)<(s.length:Int)) then(bi (getZ s s2.2) fun c12=>bif ((c12.toNat:Int):Int)==34 then(bi (some (s2.1,wi (s2.2+1))) fun v=>some (.out (.inr v))) else(bif ((c12.toNat:Int):Int)==92 then(bi (bif decide ((wi (s2.2+1):Int)≥(s.length:Int)) then(some true) else(bi (getZ s (wi (s2.2+1))) fun c23=>bi (bif ((c23.toNat:Int):Int) != 34 then(bi (getZ s (wi (s2.2+1))) fun c28=>some (((c28.toNat:Int):Int) != 92)) else(some false)) fun q25=>some q25)) fun q19=>bif q19 then(bi (some ([],0)) fun v=>some (.out (.inr v))) else(bi (subZ s (wi (s2.2+1)) (wi ((wi (s2.2+1))+1))) fun z35=>bi (catZ s2.1 z35) fun y37=>some (.go (y37,wi ((wi (s2.2+1))+1))))) else(bi (Kyo (wi ((c12.toNat:Int))) 32 126) fun y40=>bif !y40 then(bi (some ([],0)) fun v=>some (.out (.inr v))) else(bi (subZ s s2.2 (wi (s2.2+1))) fun z46=>bi (catZ s2.1 z46) fun y48=>some (.go (y48,wi (s2.2+1))))))) else(some (.out (.inl ())))) k ([],1)) fun q=>orI q fun a6=>some ([],0)
def Kzr(s:Str)(i:Int):Option Bool:=
 bi (bif decide ((i:Int)<(s.length:Int)) then(bi (getZ s i) fun c4=>bi (Kpp [48,49,50,51,52,53,54,55,56,57] (c4.toNat:Int)) fun y6=>some (decide ((y6:Int)≥0))) else(some false)) fun q1=>some q1
def Kzs(s:Str):Option (Kxc×Int):=
 bi (subZ s 1 (s.length:Int)) fun z1=>bi (Kzp z1 [48,49,50,51,52,53,54,55,56,57,46]) fun y3=>bi (subZ s 1 (wi (1+y3))) fun z5=>bi (Kpi z5 [46]) fun y7=>bif decide (((y7.length:Int):Int)>4) then(some ((⟨0,0,[],(0,0,0,0)⟩:Kxc),0)) else(bi (rangeM (σ:=Kxc) (ρ:=Kxc×Int) (fun i11 x13 s12=>bi (Kzo x13 9) fun y22=>bif !y22.2 then(bi (some ((⟨0,0,[],(0,0,0,0)⟩:Kxc),0)) fun v=>some (.out v)) else(bi (getZ ([s12.Version.1,s12.Version.2.1,s12.Version.2.2.1,s12.Version.2.2.2]:List Int) (i11:Int)) fun x28=>some (.go (⟨s12.Kind,s12.Number,s12.Words,(updA (i11:Int) 0 y22.1 s12.Version.1,updA (i11:Int) 1 y22.1 s12.Version.2.1,updA (i11:Int) 2 y22.1 s12.Version.2.2.1,updA (i11:Int) 3 y22.1 s12.Version.2.2.2)⟩:Kxc)))) 0 y7 (⟨4,0,[],(0,0,0,0)⟩:Kxc)) fun q=>goI q fun a16=>some (a16,wi (1+y3)))
def Kzt(k:Nat)(v_r:Kxg):Option Kxg:=
 bi (subZ v_r.s v_r.v_at (v_r.s.length:Int)) fun z1=>bi (Kzp z1 [32,10]) fun y3=>bi (subZ v_r.s (wi (v_r.v_at+y3)) (v_r.s.length:Int)) fun z5=>bi (rangeM (σ:=Unit) (ρ:=Str×Int) (fun i7 x9 s8=>bi (Kpd z5 x9) fun y20=>bif y20 then(some (.out (x9,(x9.length:Int)))) else(some (.go ()))) 0 [[61,61],[33,61],[60,61],[62,61],[38,38],[124,124],[60],[62],[33],[40],[41]] ()) fun q=>bi (lsN q fun s8=>([],0)) fun q14=>bi (bif ((decide ((q14.2:Int)>0))||((z5:Str)==[])) then(some ((⟨q14.1,wi (v_r.v_at+y3),[],(⟨0,0,[],(0,0,0,0)⟩:Kxc)⟩:Kxf),q14.2)) else(bi (getZ z5 0) fun c28=>bif ((c28.toNat:Int):Int)==34 then(bi (Kzq k z5) fun y31=>bif decide ((y31.2:Int)>0) then(some ((⟨[118],wi (v_r.v_at+y3),[],(⟨2,0,y31.1,(0,0,0,0)⟩:Kxc)⟩:Kxf),y31.2)) else(some ((⟨q14.1,wi (v_r.v_at+y3),[],(⟨2,0,y31.1,(0,0,0,0)⟩:Kxc)⟩:Kxf),y31.2))) else(bi (Kzr z5 0) fun y36=>bi (bif y36 then(some true) else(bi (getZ z5 0) fun c42=>bi (bif ((c42.toNat:Int):Int)==45 then(bi (Kzr z5 1) fun y47=>some y47) else(some false)) fun q44=>some q44)) fun q38=>bif q38 then(bi (subZ z5 1 (z5.length:Int)) fun z51=>bi (Kzp z51 [48,49,50,51,52,53,54,55,56,57]) fun y53=>bi (subZ z5 0 (wi (1+y53))) fun z55=>bi (Kzo z55 9) fun y57=>bif y57.2 then(some ((⟨[118],wi (v_r.v_at+y3),[],(⟨1,y57.1,[],(0,0,0,0)⟩:Kxc)⟩:Kxf),wi (1+y53))) else(some ((⟨q14.1,wi (v_r.v_at+y3),[],(⟨0,0,[],(0,0,0,0)⟩:Kxc)⟩:Kxf),wi (1+y53)))) else(bi (getZ z5 0) fun c62=>bi (bif ((c62.toNat:Int):Int)==118 then(bi (Kzr z5 1) fun y67=>some y67) else(some false)) fun q64=>bif q64 then(bi (Kzs z5) fun y71=>bif decide ((y71.2:Int)>0) then(some ((⟨[118],wi (v_r.v_at+y3),[],y71.1⟩:Kxf),y71.2)) else(some ((⟨q14.1,wi (v_r.v_at+y3),[],y71.1⟩:Kxf),y71.2))) else(bi (getZ z5 0) fun c76=>bi (bif decide (((c76.toNat:Int):Int)≥97) then(bi (getZ z5 0) fun c81=>some (decide (((c81.toNat:Int):Int)≤122))) else(some false)) fun q78=>bif q78 then(bi (Kzp z5 [97,98,99,100,101,102,103,104,105,106,107,108,109,110,111,112,113,114,115,116,117,118,119,120,121,122,45,95,48,49,50,51,52,53,54,55,56,57]) fun y85=>bi (subZ z5 0 y85) fun z87=>bi (Kyx [[102,97,108,115,101],[116,114,117,101]] z87) fun y89=>bif decide ((y89:Int)≥0) then(some ((⟨[102],wi (v_r.v_at+y3),z87,(⟨3,y89,[],(0,0,0,0)⟩:Kxc)⟩:Kxf),y85)) else(some ((⟨[110],wi (v_r.v_at+y3),z87,(⟨0,0,[],(0,0,0,0)⟩:Kxc)⟩:Kxf),y85))) else(some ((⟨q14.1,wi (v_r.v_at+y3),[],(⟨0,0,[],(0,0,0,0)⟩:Kxc)⟩:Kxf),q14.2))))))) fun q24=>some (⟨v_r.s,wi ((wi (v_r.v_at+y3))+q24.2),q24.1,v_r.fault⟩:Kxg)
def Kzu(k:Nat)(s:Str):Option (Kxc×Bool):=
 bi (Kzt k (⟨s,0,(⟨[],0,[],(⟨0,0,[],(0,0,0,0)⟩:Kxc)⟩:Kxf),-1⟩:Kxg)) fun y1=>bi (bif (y1.v_next.kind:Str)==[118] then(bi (Kys k y1.v_next.value) fun y6=>some ((y6:Str)==s)) else(bif (y1.v_next.kind:Str)==[102] then(bi (Kys k y1.v_next.value) fun y10=>some ((y10:Str)==s)) else(some false))) fun q3=>some (y1.v_next.value,q3)
def Kzv(k:Nat)(line:Str)(x:List Kxd):Option (Bool×(List Kxd)):=
 bi (Kpx line [32] 4) fun y1=>bi (bif decide (((y1.length:Int):Int)<4) then(some true) else(bi (subZ y1 0 3) fun z7=>bi (Kyy z7 []) fun y9=>some y9)) fun q3=>bif q3 then(some (false,x)) else(bi (getZ y1 0) fun x13=>bi (Kzo x13 9) fun y15=>bi (getZ y1 3) fun x17=>bi (Kzu k x17) fun y19=>bi (getZ y1 1) fun x21=>bi (getZ y1 2) fun x23=>bi (apd x [(⟨y15.1,x21,x23,y19.1⟩:Kxd)]) fun y25=>some ((y15.2&&y19.2),y25))
def Kzw(k:Nat)(text:Str)(f:List Kxd):Option (Int×Bool×(List Kxd)):=
 bi (loopM (σ:=(List Kxd)×Str×Int) (ρ:=(List Kxd) ⊕ (Int×Bool×(List Kxd))) (fun s2=>bif !((s2.2.1:Str)==[]) then(bi (Kpk s2.2.1 [10]) fun y12=>bi (bif !y12.2.2 then(some (s2.1,true)) else(bi (Kzv k y12.1 s2.1) fun y18=>some (y18.2,!y18.1))) fun q14=>bif q14.2 then(bi (some (s2.2.2,false,q14.1)) fun v=>some (.out (.inr v))) else(some (.go (q14.1,y12.2.1,wi (s2.2.2+1))))) else(some (.out (.inl s2.1)))) k (f,text,0)) fun q=>orI q fun a6=>some (0,true,a6)
def Kzx(k:Nat)(text:Str):Option ((List Kxd)×Int×Int):=
 bif decide (((text.length:Int):Int)>200000) then(some ([],0,2)) else(bi (Kzw k text ([]:List Kxd)) fun y3=>bif !y3.2.1 then(some ([],y3.1,9)) else(bi (Kyr k y3.2.2) fun y7=>bif (y7:Int) != 0 then(some ([],0,y7)) else(some (y3.2.2,0,0))))
def Kzy(s1:List Kxd)(s2:List Kxd):Option Bool:=
 bif ((s1.length:Int):Int) != (s2.length:Int) then(some false) else(bi (rangeM (σ:=Unit) (ρ:=Bool) (fun i3 x5 s4=>bi (getZ s2 (i3:Int)) fun x14=>bif !(((x5.At:Int)==x14.At)&&(((x5.Node:Str)==x14.Node)&&(((x5.Name:Str)==x14.Name)&&((((x5.Value.Kind:Int)==x14.Value.Kind)&&(((x5.Value.Number:Int)==x14.Value.Number)&&(((x5.Value.Words:Str)==x14.Value.Words)&&(decide (([x5.Value.Version.1,x5.Value.Version.2.1,x5.Value.Version.2.2.1,x5.Value.Version.2.2.2]:List Int)=[x14.Value.Version.1,x14.Value.Version.2.1,x14.Value.Version.2.2.1,x14.Value.Version.2.2.2])&&true))))&&true)))) then(bi (some false) fun v=>some (.out v)) else(some (.go ()))) 0 s1 ()) fun q=>goI q fun a8=>some true)
def Kzz(k:Nat)(p:Kxh):Option Kxh:=
 bi (loopM (σ:=Int) (ρ:=Int) (fun s2=>bi (bif decide ((s2:Int)<(p.s.length:Int)) then(bi (getZ p.s s2) fun c14=>bi (bif ((c14.toNat:Int):Int)==32 then(some true) else(bi (getZ p.s s2) fun c20=>some (((c20.toNat:Int):Int)==10))) fun q16=>some q16) else(some false)) fun q11=>bif q11 then(some (.go (wi (s2+1)))) else(some (.out s2))) k p.tok.v_end) fun q4=>bi (Kzk k p.s q4) fun y25=>some (⟨p.s,y25,p.bad,p.v_at⟩:Kxh)
def Laa(p:Kxh):Option (Kxi×Kxh):=
 bi (bif !p.bad then(some (⟨p.s,p.tok,true,p.tok.v_at⟩:Kxh)) else(some p)) fun q1=>some ((⟨0,[],[],(⟨0,0,[],(0,0,0,0)⟩:Kxc),(KD.mk 0 [])⟩:Kxi),q1)
def Lab(op:Str):Option Bool:=
 bi (Kyy [[61,61],[33,61],[60],[60,61],[62],[62,61]] op) fun y1=>some y1
def Lac(k:Nat)(p:Kxh):Option (Kxi×Kxh):=
 bi (Kzz k p) fun y1=>bi (Lab y1.tok.kind) fun y3=>bif !y3 then(some ((⟨1,p.tok.name,[61,61],(⟨3,1,[],(0,0,0,0)⟩:Kxc),(KD.mk 0 [])⟩:Kxi),y1)) else(bi (Kzz k y1) fun y7=>bif !((y7.tok.kind:Str)==[118,97,108,117,101]) then(bi (Laa y7) fun y10=>some (y10.1,y10.2)) else(bi (Kzz k y7) fun y13=>some ((⟨1,p.tok.name,y1.tok.kind,y7.tok.value,(KD.mk 0 [])⟩:Kxi),y13)))
def Lad(rc_posture_parser_cond:Kxh→Option (Kxi×Kxh)):Nat→Kxh→Option (Kxi×Kxh)
 | 0,_=>none
 | k+1,p=>bif (p.tok.kind:Str)==[33] then(bi (Kzz k p) fun y2=>bi (Lad rc_posture_parser_cond k y2) fun y4=>some ((⟨2,[],[],(⟨0,0,[],(0,0,0,0)⟩:Kxc),(pk Kxj [y4.1])⟩:Kxi),y4.2)) else(bif (p.tok.kind:Str)==[40] then(bi (Kzz k p) fun y8=>bi (rc_posture_parser_cond y8) fun y10=>bif y10.2.bad then(some (y10.1,y10.2)) else(bif !((y10.2.tok.kind:Str)==[41]) then(bi (Laa y10.2) fun y15=>some (y15.1,y15.2)) else(bi (Kzz k y10.2) fun y18=>some (y10.1,y18)))) else(bif (p.tok.kind:Str)==[110,97,109,101] then(bi (Lac k p) fun y22=>some (y22.1,y22.2)) else(bi (Laa p) fun y25=>some (y25.1,y25.2))))
def Lae(kind:Int)(l:List Kxi):Option Kxi:=
 bif ((l.length:Int):Int)==1 then(bi (getZ l 0) fun x2=>some x2) else(bi (rangeF (σ:=List Kxi) (fun i5 x7 s6=>bif (x7.Kind:Int)==kind then(bi (unK d_api_Cond 11 x7.Kids) fun l17=>bi (apd s6 l17) fun y19=>some y19) else(bi (apd s6 [x7]) fun y22=>some y22)) 0 l ([]:List Kxi)) fun q8=>some (⟨kind,[],[],(⟨0,0,[],(0,0,0,0)⟩:Kxc),(pk Kxj q8)⟩:Kxi))
def Laf(rc_posture_parser_cond:Kxh→Option (Kxi×Kxh))(k:Nat)(p:Kxh):Option (Kxi×Kxh):=
 bi (Lad rc_posture_parser_cond k p) fun y1=>bi (loopM (σ:=Kxh×(List Kxi)) (ρ:=Kxh×(List Kxi)) (fun s4=>bif ((!s4.1.bad)&&((s4.1.tok.kind:Str)==[38,38])) then(bi (Kzz k s4.1) fun y14=>bi (Lad rc_posture_parser_cond k y14) fun y16=>bi (apd s4.2 [y16.1]) fun y18=>some (.go (y16.2,y18))) else(some (.out (s4.1,s4.2)))) k (y1.2,[y1.1])) fun q6=>bi (Lae 3 q6.2) fun y21=>some (y21,q6.1)
def Lag:Nat→Kxh→Option (Kxi×Kxh)
 | 0,_=>none
 | k+1,p=>bi (Laf (Lag k) k p) fun y1=>bi (loopM (σ:=Kxh×(List Kxi)) (ρ:=Kxh×(List Kxi)) (fun s4=>bif ((!s4.1.bad)&&((s4.1.tok.kind:Str)==[124,124])) then(bi (Kzz k s4.1) fun y14=>bi (Laf (Lag k) k y14) fun y16=>bi (apd s4.2 [y16.1]) fun y18=>some (.go (y16.2,y18))) else(some (.out (s4.1,s4.2)))) k (y1.2,[y1.1])) fun q6=>bi (Lae 4 q6.2) fun y21=>some (y21,q6.1)
def Lah:Nat→Kxi→Option (Int×Int)
 | 0,_=>none
 | k+1,c=>bi (bif (c.Kind:Int)==1 then(some 1) else(some 0)) fun q1=>bi (unK d_api_Cond 11 c.Kids) fun l5=>bi (rangeF (σ:=Int×Int) (fun i7 x9 s8=>bi (Lah k x9) fun y18=>some (wi (s8.1+y18.1),(if y18.2>s8.2 then y18.2 else s8.2))) 0 l5 (q1,0)) fun q10=>some (q10.1,wi (q10.2+1))
def Lai(v_k:Kxi)(x:Kxi):Option Bool:=
 some ((v_k.Kind:Int)==x.Kind)
def Laj(s:List Kxi)(f:Kxi):Option Int:=
 bi (rangeM (σ:=Unit) (ρ:=Int) (fun i1 x3 s2=>bi (Lai x3 f) fun y12=>bif y12 then(bi (some (i1:Int)) fun v=>some (.out v)) else(some (.go ()))) 0 s ()) fun q=>goI q fun a6=>some (-1)
def Lak(s:List Kxi)(f:Kxi):Option Bool:=
 bi (Laj s f) fun y1=>some (decide ((y1:Int)≥0))
def Lal(c:Kxi):Option Bool:=
 bi (unK d_api_Cond 11 c.Kids) fun l1=>bi (bif (c.Kind:Int)==1 then(bi (some (((l1.length:Int):Int)==0)) fun v=>some (.inr v)) else(bif (c.Kind:Int)==2 then(bif ((l1.length:Int):Int) != 1 then(bi (some false) fun v=>some (.inr v)) else(some (.inl ()))) else(bi (bif decide (((l1.length:Int):Int)<2) then(some true) else(bi (unK d_api_Cond 11 c.Kids) fun l20=>bi (Lak l20 c) fun y22=>some y22)) fun q16=>bif q16 then(bi (some false) fun v=>some (.inr v)) else(some (.inl ())))):Option (Unit ⊕ Bool)) fun q=>orI q fun a5=>some ((((c.Name:Str)==[])&&((c.Op:Str)==[]))&&(((c.Value.Kind:Int)==0)&&(((c.Value.Number:Int)==0)&&(((c.Value.Words:Str)==[])&&(decide (([c.Value.Version.1,c.Value.Version.2.1,c.Value.Version.2.2.1,c.Value.Version.2.2.2]:List Int)=[0,0,0,0])&&true)))))
def Lam:Nat→Kxi→Option Int
 | 0,_=>none
 | k+1,c=>bi (Kxv c.Kind 1 4) fun y1=>bif y1 then(some 4) else(bi (Lal c) fun y5=>bif !y5 then(some 3) else(bi (bif (c.Kind:Int)==1 then(bi (Kxu k c.Name) fun y13=>bi (bif (((!y13)||((c.Name:Str)==[116,114,117,101]))||((c.Name:Str)==[102,97,108,115,101])) then(some true) else(bi (Kzf c.Name) fun y19=>some y19)) fun q15=>bif q15 then(bi (some 5) fun v=>some (.inr v)) else(bi (Lab c.Op) fun y25=>bif !y25 then(bi (some 10) fun v=>some (.inr v)) else(bi (Kxx k c.Value) fun y31=>bif (y31:Int) != 0 then(bi (some y31) fun v=>some (.inr v)) else(bif ((((c.Value.Kind:Int)==3)&&(!((c.Op:Str)==[61,61])))&&(!((c.Op:Str)==[33,61]))) then(bi (some 10) fun v=>some (.inr v)) else(some (.inl ())))))) else(some (.inl ())):Option (Unit ⊕ Int)) fun q=>orI q fun a11=>bi (unK d_api_Cond 11 c.Kids) fun l42=>bi (rangeM (σ:=Unit) (ρ:=Int) (fun i44 x46 s45=>bi (Lam k x46) fun y55=>bif (y55:Int) != 0 then(bi (some y55) fun v=>some (.out v)) else(some (.go ()))) 0 l42 ()) fun q=>goI q fun a49=>some 0))
def Lan(k:Nat)(c:Kxi):Option Int:=
 bi (Lah k c) fun y1=>bif ((decide ((y1.1:Int)>100))||(decide ((y1.2:Int)>30))) then(some 2) else(bi (Lam k c) fun y5=>some y5)
def Lao(k:Nat)(text:Str):Option (Kxi×Int×Int):=
 bif decide (((text.length:Int):Int)>5000) then(some ((⟨0,[],[],(⟨0,0,[],(0,0,0,0)⟩:Kxc),(KD.mk 0 [])⟩:Kxi),0,2)) else(bi (Kzz k (⟨text,(⟨[],0,0,[],(⟨0,0,[],(0,0,0,0)⟩:Kxc)⟩:Kxe),false,0⟩:Kxh)) fun y3=>bi (Lag k y3) fun y5=>bi (bif ((!y5.2.bad)&&(!((y5.2.tok.kind:Str)==[101,110,100]))) then(bi (Laa y5.2) fun y10=>some y10.2) else(some y5.2)) fun q7=>bif q7.bad then(some ((⟨0,[],[],(⟨0,0,[],(0,0,0,0)⟩:Kxc),(KD.mk 0 [])⟩:Kxi),q7.v_at,9)) else(bi (Lan k y5.1) fun y15=>bif (y15:Int) != 0 then(some ((⟨0,[],[],(⟨0,0,[],(0,0,0,0)⟩:Kxc),(KD.mk 0 [])⟩:Kxi),0,y15)) else(some (y5.1,0,0))))
def Lap(k:Nat):Option Bool:=
 bi (Lao k [97]) fun y1=>some ((((y1.2.2:Int)==0)&&((y1.1.Kind:Int)==1))&&((y1.1.Name:Str)==[97]))
def Laq(k:Nat)(l:List Int):Option Bool:=
 bi (Kxm (⟨l,0⟩:Kxb) 0 3) fun y1=>bi (Kxs y1.2 y1.1) fun y3=>bi (Kyj k y3.1) fun y5=>bi (Kyr k y3.1) fun y7=>bi (bif (y5.2:Int) != y7 then(some true) else(bi (bif (y7:Int)==0 then(bi (Kyt k y3.1) fun y16=>some (!((y5.1:Str)==y16))) else(some false)) fun q13=>some q13)) fun q9=>bif (q9||(((y7:Int) != 0)&&(!((y5.1:Str)==[])))) then(some false) else(bi (Kyv k y3.2) fun y21=>bi (Kzn k y21.1) fun y23=>bi (Kzx k y21.1) fun y25=>bi (bif (((y23.2.2:Int)==y25.2.2)&&((y23.2.1:Int)==y25.2.1)) then(bi (Kzy y23.1 y25.1) fun y30=>some y30) else(some false)) fun q27=>bi (bif q27 then(bi (Lap k) fun y36=>some y36) else(some false)) fun q33=>some q33)
end
end Go.Gk
