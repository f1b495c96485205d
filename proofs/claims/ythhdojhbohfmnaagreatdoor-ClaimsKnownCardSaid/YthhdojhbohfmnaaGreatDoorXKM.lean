import Derived.Test.YthhdojhbohfmnaaGreatDoorMStr9
import Derived.Test.YthhdojhbohfmnaaGreatDoorGk65
set_option linter.unusedVariables false
namespace Go.Gk
noncomputable section
structure Kwz where
 L:List Int
 v_at:Int
 deriving DecidableEq
structure Kxa where
 Kind:Int
 Number:Int
 Words:Str
 Version:(Int×Int×Int×Int)
 deriving DecidableEq
structure Kxb where
 At:Int
 Node:Str
 Name:Str
 Value:Kxa
 deriving DecidableEq
structure Kxc where
 node:Str
 name:Str
 deriving DecidableEq
structure Kxd where
 fresh:Int
 list:List (Kxc×(Tl Kxb))
 deriving DecidableEq
structure Kxe where
 kind:Str
 v_at:Int
 v_end:Int
 name:Str
 value:Kxa
 deriving DecidableEq
structure Kxf where
 s:Str
 tok:Kxe
 bad:Bool
 v_at:Int
 deriving DecidableEq
structure Kxg where
 Kind:Int
 Name:Str
 Op:Str
 Value:Kxa
 Kids:KD
abbrev Kxh(x:Kxg):List D:=[.v (.int .i64 x.Kind),.v (.string ⟨x.Name.toArray⟩),.v (.string ⟨x.Op.toArray⟩),.v (.int .i64 x.Value.Kind),.v (.int .i64 x.Value.Number),.v (.string ⟨x.Value.Words.toArray⟩),.v (.int .i64 x.Value.Version.1),.v (.int .i64 x.Value.Version.2.1),.v (.int .i64 x.Value.Version.2.2.1),.v (.int .i64 x.Value.Version.2.2.2),.ro x.Kids.n x.Kids.xs]
def d_api_Cond:List D→Option Kxg
 | [c0,c1,c2,c3,c4,c5,c6,c7,c8,c9,c10]=>bi (rdI .i64 c0) fun y0=>bi (rdS c1) fun y1=>bi (rdS c2) fun y2=>bi (rdI .i64 c3) fun y3=>bi (rdI .i64 c4) fun y4=>bi (rdS c5) fun y5=>bi (rdI .i64 c6) fun y6=>bi (rdI .i64 c7) fun y7=>bi (rdI .i64 c8) fun y8=>bi (rdI .i64 c9) fun y9=>bi (rdK c10) fun y10=>some (⟨y0,y1,y2,(⟨y3,y4,y5,(y6,y7,y8,y9)⟩:Kxa),y10⟩:Kxg)
 | _=>none
theorem Lba:DecOk Kxh d_api_Cond:=by
 intro ds x h
 unfold d_api_Cond at h
 split at h
 ·obtain⟨y0,hy0,h⟩:=Kgk h
  obtain⟨y1,hy1,h⟩:=Kgk h
  obtain⟨y2,hy2,h⟩:=Kgk h
  obtain⟨y3,hy3,h⟩:=Kgk h
  obtain⟨y4,hy4,h⟩:=Kgk h
  obtain⟨y5,hy5,h⟩:=Kgk h
  obtain⟨y6,hy6,h⟩:=Kgk h
  obtain⟨y7,hy7,h⟩:=Kgk h
  obtain⟨y8,hy8,h⟩:=Kgk h
  obtain⟨y9,hy9,h⟩:=Kgk h
  obtain⟨y10,hy10,h⟩:=Kgk h
  obtain rfl:=Kol hy0
  obtain rfl:=Kom hy1
  obtain rfl:=Kom hy2
  obtain rfl:=Kol hy3
  obtain rfl:=Kol hy4
  obtain rfl:=Kom hy5
  obtain rfl:=Kol hy6
  obtain rfl:=Kol hy7
  obtain rfl:=Kol hy8
  obtain rfl:=Kol hy9
  obtain rfl:=Kon hy10
  cases h
  rfl
 cases h
theorem Lbb(x:Kxg):d_api_Cond (Kxh x)=some x:=by
 cases x
 simp[Kxh,d_api_Cond]
def Kxi(x:Int)(n:Int):Option Int:=
 bif decide ((n:Int)<1) then(some 0) else(bi (remZ x n) fun y3=>bi (bif decide ((y3:Int)<0) then(some (wi (y3+n))) else(some y3)) fun q5=>some q5)
def Kxj(s:Kwz)(n:Int):Option (Int×Kwz):=
 bif ((s.L.length:Int):Int)==0 then(bi (Kxi (wi ((wi (s.v_at+1)) * 7919)) n) fun y2=>some (y2,(⟨s.L,wi (s.v_at+1)⟩:Kwz))) else(bi (remZ (wi ((wi (s.v_at+1)) - 1)) (s.L.length:Int)) fun y5=>bi (divZ .i64 (wi ((wi (s.v_at+1)) - 1)) (s.L.length:Int)) fun y7=>bi (getZ s.L y5) fun x9=>bi (Kxi x9 1073741824) fun y11=>bi (Kxi (wi (y11+(wi (y7 * (wi (7919+y5)))))) n) fun y13=>some (y13,(⟨s.L,wi (s.v_at+1)⟩:Kwz)))
def Kxk(s:Kwz)(low:Int)(high:Int):Option (Int×Kwz):=
 bif decide ((high:Int)<low) then(some (low,s)) else(bi (Kxj s (wi ((wi (high - low))+1))) fun y3=>some (wi (low+y3.1),y3.2))
def Kxl(s:Kwz)(n:Int):Option (Bool×Kwz):=
 bi (Kxj s n) fun y1=>some ((y1.1:Int)==0,y1.2)
def Kxm(s:Kwz)(l:List Str):Option (Str×Kwz):=
 bi (Kxj s (l.length:Int)) fun y1=>bi (getZ l y1.1) fun x3=>some (x3,y1.2)
def Kxn(s:Kwz)(l:List Int):Option (Int×Kwz):=
 bi (Kxj s (l.length:Int)) fun y1=>bi (getZ l y1.1) fun x3=>some (x3,y1.2)
def Kxo(s:Kwz)(low:Int)(high:Int):Option (Int×Kwz):=
 bi (Kxl s 12) fun y1=>bif y1.1 then(bi (Kxn y1.2 [wi (low - 1),wi (high+1),low,high,-1099511627776,1099511627776]) fun y4=>some (y4.1,y4.2)) else(bi (Kxk y1.2 low high) fun y7=>some (y7.1,y7.2))
def Kxp(s:Kwz):Option (Kxa×Kwz):=
 bi (Kxn s [1,1,2,2,3,4]) fun y1=>bi (bif (y1.1:Int)==1 then(bi (Kxn y1.2 [0,5,12,-3,100000000]) fun y6=>some (y6.2,(⟨y1.1,y6.1,[],(0,0,0,0)⟩:Kxa))) else(bif (y1.1:Int)==2 then(bi (Kxm y1.2 [[108,105,110,117,120],[109,97,99],[],[97,32,34,98,92],[119,105,110]]) fun y10=>some (y10.2,(⟨y1.1,0,y10.1,(0,0,0,0)⟩:Kxa))) else(bif (y1.1:Int)==3 then(bi (Kxj y1.2 2) fun y14=>some (y14.2,(⟨y1.1,y14.1,[],(0,0,0,0)⟩:Kxa))) else(bi (Kxn y1.2 [0,2,12]) fun y17=>bi (Kxn y17.2 [0,3]) fun y19=>some (y19.2,(⟨y1.1,0,[],(1,y17.1,y19.1,0)⟩:Kxa)))))) fun q3=>bi (Kxl q3.1 60) fun y21=>bi (bif y21.1 then(bi (Kxo y21.2 0 1) fun y26=>bi (Ksb [119] 101) fun y28=>bi (Kxm y26.2 [[],[120],[195,169],y28]) fun y30=>some (y30.2,(⟨q3.2.Kind,y26.1,y30.1,q3.2.Version⟩:Kxa))) else(some (y21.2,q3.2))) fun q23=>some (q23.2,q23.1)
def Kxq(s:Kwz)(many:Int):Option ((List Kxb)×Kwz):=
 bi (Kxj s 5) fun y1=>bi (gd (decide (many≤9223372036854775807)) (rangeG (σ:=Kwz×(List Kxb)×Int) (fun i3 s4=>bi (rangeF (σ:=Kwz×(List Kxb)) (fun i15 x17 s16=>bi (rangeF (σ:=Kwz×(List Kxb)) (fun i26 x28 s27=>bi (Kxl s27.1 4) fun y37=>bif !y37.1 then(some (y37.2,s27.2)) else(bi (bif (x28:Str)==[100,105,115,107] then(bi (Kxj y37.2 2) fun y44=>some (y44.2,(⟨s4.2.2,x17,x28,(⟨3,y44.1,[],(0,0,0,0)⟩:Kxa)⟩:Kxb))) else(bif (x28:Str)==[111,115] then(bi (Kxm y37.2 [[108,105,110,117,120],[108,105,110,117,120],[109,97,99]]) fun y48=>some (y48.2,(⟨s4.2.2,x17,x28,(⟨2,0,y48.1,(0,0,0,0)⟩:Kxa)⟩:Kxb))) else(bi (Kxn y37.2 [2,12]) fun y51=>some (y51.2,(⟨s4.2.2,x17,x28,(⟨4,0,[],(1,y51.1,0,0)⟩:Kxa)⟩:Kxb))))) fun q41=>bi (Kxl q41.1 15) fun y53=>bi (bif y53.1 then(bi (Kxp y53.2) fun y58=>some (y58.2,(⟨q41.2.At,q41.2.Node,q41.2.Name,y58.1⟩:Kxb))) else(some (y53.2,q41.2))) fun q55=>bi (apd s27.2 [q55.2]) fun y61=>some (q55.1,y61))) 0 [[100,105,115,107],[111,115],[118,101,114,115,105,111,110]] (s16.1,s16.2)) fun q29=>some (q29.1,q29.2)) 0 [[110,97],[110,98]] (s4.1,s4.2.1)) fun q18=>bi (Kxn q18.1 [1,5,20,60]) fun y63=>some (y63.2,q18.2,wi (s4.2.2+y63.1))) many (y1.2,([]:List Kxb),y1.1))) fun q6=>bi (Kxl q6.1 20) fun y65=>bi (bif y65.1 then(bi (Kxo y65.2 0 1000) fun y70=>bi (Kxm y70.2 [[],[110,97]]) fun y72=>bi (Kxm y72.2 [[111,115],[65]]) fun y74=>bi (Kxp y74.2) fun y76=>bi (apd q6.2.1 [(⟨y70.1,y72.1,y74.1,y76.1⟩:Kxb)]) fun y78=>some (y76.2,y78)) else(some (y65.2,q6.2.1))) fun q67=>some (q67.2,q67.1)
def Kxr(s:List Kxb):Option (List Kxb):=
 bi (apd ([]:List Kxb) s) fun y1=>some y1
def Kxs(s:Kwz):Option (Kxa×Kwz):=
 bi (Kxp s) fun y1=>some (y1.1,y1.2)
def Kxt(s:Kwz):Option (Int×Kwz):=
 bi (Kxn s [20,0,345686401]) fun y1=>bi (Kxn y1.2 [1,20,30,50,50,100,345686400,y1.1]) fun y3=>some (y3.1,y3.2)
def Kxu(s:Kwz):Option (Int×Kwz):=
 bi (Kxj s 300) fun y1=>bi (Kxj y1.2 300) fun y3=>bi (Kxn y3.2 [345686399,-1,345686400]) fun y5=>bi (Kxn y5.2 [0,5,20,40,60,80,120,y1.1,y3.1,y5.1]) fun y7=>some (y7.1,y7.2)
def Kxv(n:Int):Option Bool:=
 some ((decide ((n:Int)≥0))&&(decide ((n:Int)<345686400)))
def Kxw(k:Nat)(s:Str):Option Bool:=
 bi (loopM (σ:=Int) (ρ:=Unit ⊕ Bool) (fun s2=>bif decide ((s2:Int)<(s.length:Int)) then(bi (getZ s s2) fun c12=>bif !(((decide (((c12.toNat:Int):Int)≥97))&&(decide (((c12.toNat:Int):Int)≤122)))||((decide ((s2:Int)>0))&&((((decide (((c12.toNat:Int):Int)≥48))&&(decide (((c12.toNat:Int):Int)≤57)))||(((c12.toNat:Int):Int)==45))||(((c12.toNat:Int):Int)==95)))) then(bi (some false) fun v=>some (.out (.inr v))) else(some (.go (wi (s2+1))))) else(some (.out (.inl ())))) k 0) fun q=>orI q fun a6=>some ((!((s:Str)==[]))&&(decide (((s.length:Int):Int)≤40)))
def Kxx(n:Int)(low:Int)(high:Int):Option Bool:=
 some ((decide ((n:Int)<low))||(decide ((n:Int)>high)))
def Kxy(s:Str):Option Bool:=
 bi (gd (decide ((s.length:Int)≤9223372036854775807)) (rangeI (σ:=Unit) (ρ:=Bool) (fun i1 s2=>bi (getZ s (i1:Int)) fun c13=>bi (bif decide (((c13.toNat:Int):Int)<32) then(some true) else(bi (getZ s (i1:Int)) fun c19=>some (decide (((c19.toNat:Int):Int)>126)))) fun q15=>bif q15 then(bi (some false) fun v=>some (.out v)) else(some (.go ()))) (s.length:Int) ())) fun q=>goI q fun a6=>some (decide (((s.length:Int):Int)≤100))
def Kxz(k:Nat)(a:Kxa):Option Int:=
 bi (Kxx a.Kind 1 4) fun y1=>bif y1 then(some 4) else(bi (bif (a.Kind:Int)==1 then(bi (Kxx a.Number (-100000000) 100000000) fun y8=>some y8) else(some false)) fun q5=>bi (bif q5 then(some true) else(bi (bif (a.Kind:Int)==3 then(bi (Kxx a.Number 0 1) fun y18=>some y18) else(some false)) fun q15=>some q15)) fun q11=>bif q11 then(some 1) else(bif ((((a.Kind:Int) != 1)&&((a.Kind:Int) != 3))&&((a.Number:Int) != 0)) then(some 3) else(bi (bif (a.Kind:Int)==2 then(bi (Kxy a.Words) fun y28=>some (!y28)) else(some false)) fun q25=>bif (q25||(((a.Kind:Int) != 2)&&(!((a.Words:Str)==[])))) then(some 3) else(bi (loopM (σ:=Int) (ρ:=Unit ⊕ Int) (fun s34=>bif decide ((s34:Int)<4) then(bi (getZ ([a.Version.1,a.Version.2.1,a.Version.2.2.1,a.Version.2.2.2]:List Int) s34) fun x44=>bi (bif (a.Kind:Int)==4 then(bi (Kxx x44 0 1000000) fun y49=>some y49) else(some false)) fun q46=>bif q46 then(bi (some 1) fun v=>some (.out (.inr v))) else(bif (((a.Kind:Int) != 4)&&((x44:Int) != 0)) then(bi (some 3) fun v=>some (.out (.inr v))) else(some (.go (wi (s34+1)))))) else(some (.out (.inl ())))) k 0) fun q=>orI q fun a38=>some 0))))
def Kya(x:Int):Option Bool:=
 some ((x:Int) != x)
def Kyb(x:Int)(y:Int):Option Int:=
 bi (Kya x) fun y1=>bi (Kya y) fun y3=>bif y1 then(bif y3 then(some 0) else(some (-1))) else(bif y3 then(some 1) else(bif decide ((x:Int)<y) then(some (-1)) else(bif decide ((x:Int)>y) then(some 1) else(some 0))))
def Kyc(vals:List Int):Option Int:=
 bi (rangeM (σ:=Unit) (ρ:=Int) (fun i1 x3 s2=>bif (x3:Int) != 0 then(bi (some x3) fun v=>some (.out v)) else(some (.go ()))) 0 vals ()) fun q=>goI q fun a6=>some 0
def Kyd(a:Kxb)(b:Kxb):Option Int:=
 bi (Kyb a.At b.At) fun y1=>bi (Ksg a.Node b.Node) fun y3=>bi (Ksg a.Name b.Name) fun y5=>bi (Kyc [y1,y3,y5]) fun y7=>some y7
def Kye(k:Nat)(l:List Kxb):Option Int:=
 bif decide (((l.length:Int):Int)>2000) then(some 2) else(bi (rangeM (σ:=Unit) (ρ:=Int) (fun i3 x5 s4=>bi (Kxv x5.At) fun y14=>bif !y14 then(bi (some 1) fun v=>some (.out v)) else(bi (Kxw k x5.Node) fun y20=>bi (bif !y20 then(some true) else(bi (Kxw k x5.Name) fun y26=>some (!y26))) fun q22=>bif q22 then(bi (some 5) fun v=>some (.out v)) else(bi (Kxz k x5.Value) fun y32=>bif (y32:Int) != 0 then(bi (some y32) fun v=>some (.out v)) else(bi (bif decide (((i3:Int):Int)>0) then(bi (getZ l (wi ((i3:Int) - 1))) fun x41=>bi (Kyd x41 x5) fun y43=>some (decide ((y43:Int)≥0))) else(some false)) fun q38=>bif q38 then(bi (some 7) fun v=>some (.out v)) else(some (.go ())))))) 0 l ()) fun q=>goI q fun a8=>some 0)
def Kyf(fresh:Int):Option Int:=
 bi (Kxx fresh 1 345686400) fun y1=>bif y1 then(some 1) else(some 0)
def Kyg(k:Nat)(s:Str):Option Bool:=
 bi (Kxw k s) fun y1=>some (!y1)
def Kyh(k:Nat)(s:List Str):Option Int:=
 bi (rangeM (σ:=Unit) (ρ:=Int) (fun i1 x3 s2=>bi (Kyg k x3) fun y12=>bif y12 then(bi (some (i1:Int)) fun v=>some (.out v)) else(some (.go ()))) 0 s ()) fun q=>goI q fun a6=>some (-1)
def Kyi(k:Nat)(s:List Str):Option Bool:=
 bi (Kyh k s) fun y1=>some (decide ((y1:Int)≥0))
def Kyj(k:Nat)(l:List Kxb)(fresh:Int)(names:List Str):Option Int:=
 bi (Kye k l) fun y1=>bif (y1:Int) != 0 then(some y1) else(bi (Kyf fresh) fun y5=>bif (y5:Int) != 0 then(some y5) else(bi (Kyi k names) fun y9=>bif y9 then(some 5) else(some 0)))
def Kyk(v_at:Int):Option Int:=
 bi (Kxv v_at) fun y1=>bif !y1 then(some 1) else(some 0)
def Kyl(l:List Kxb)(fresh:Int)(al:List Bool):Option (Kxd×(List Bool)):=
 bi (rangeF (σ:=(List Bool)×(List (Kxc×(Tl Kxb)))) (fun i1 x3 s2=>bi (appT s2.1 ((mGet s2.2 (⟨x3.Node,x3.Name⟩:Kxc)).getD ((1,[]):Tl Kxb)) [x3]) fun y16=>some (y16.2,(mSet s2.2 (⟨x3.Node,x3.Name⟩:Kxc) y16.1))) 0 l (al,([]:List (Kxc×(Tl Kxb))))) fun q4=>some ((⟨fresh,q4.2⟩:Kxd),q4.1)
def kGo(hit:Kxb→Bool)(fresh:Int)(v_at:Int):List Kxb→Kxa×Bool
 | []=>(⟨0,0,[],(0,0,0,0)⟩,false)
 | c :: r=>if hit c then(if v_at<wi (c.At+fresh) then(c.Value,true) else(⟨0,0,[],(0,0,0,0)⟩,false)) else kGo hit fresh v_at r
def Kym(v_r:Kxd)(node:Str)(name:Str)(v_at:Int):Option (Kxa×Bool):=
 gd (Nat.ble ((mGet v_r.list (⟨node,name⟩:Kxc)).getD ((1,[]):Tl Kxb)).2.length 4294967296) (some (kGo (fun c=>decide (c.At≤v_at)) v_r.fresh v_at ((mGet v_r.list (⟨node,name⟩:Kxc)).getD ((1,[]):Tl Kxb)).2.reverse))
def Kyn(k:Nat)(l:List Kxb)(fresh:Int)(node:Str)(name:Str)(v_at:Int)(al:List Bool):Option (Kxa×Bool×Int×(List Bool)):=
 bi (Kyj k l fresh [node,name]) fun y1=>bif (y1:Int) != 0 then(some ((⟨0,0,[],(0,0,0,0)⟩:Kxa),false,y1,al)) else(bi (Kyk v_at) fun y5=>bif (y5:Int) != 0 then(some ((⟨0,0,[],(0,0,0,0)⟩:Kxa),false,y5,al)) else(bi (Kyl l fresh al) fun y9=>bi (Kym y9.1 node name v_at) fun y11=>some (y11.1,y11.2,0,y9.2)))
def Kyo(k:Nat)(data:List Kxb)(a:Int)(b:Int):Option (List Kxb):=
 bi (loopM (σ:=(List Kxb)×Int) (ρ:=List Kxb) (fun s2=>bif decide ((s2.2:Int)<b) then(bi (loopM (σ:=(List Kxb)×Int) (ρ:=List Kxb) (fun s13=>bi (bif decide ((s13.2:Int)>a) then(bi (getZ s13.1 s13.2) fun x25=>bi (getZ s13.1 (wi (s13.2 - 1))) fun x28=>bi (Kyd x25 x28) fun y31=>some (decide ((y31:Int)<0))) else(some false)) fun q22=>bif q22 then(bi (getZ s13.1 (wi (s13.2 - 1))) fun x35=>bi (getZ s13.1 s13.2) fun x38=>bi (getZ s13.1 s13.2) fun x41=>bi (getZ s13.1 (wi (s13.2 - 1))) fun x44=>bi (getZ (s13.1.set s13.2.toNat x35) (((wi (s13.2 - 1)).toNat:Nat):Int)) fun x47=>some (.go ((s13.1.set s13.2.toNat x35).set ((wi (s13.2 - 1)).toNat) x38,wi (s13.2 - 1)))) else(some (.out s13.1))) k (s2.1,s2.2)) fun q15=>some (.go (q15,wi (s2.2+1)))) else(some (.out s2.1))) k (data,wi (a+1))) fun q4=>some q4
def Kyp(k:Nat)(data:List Kxb)(a:Int)(b:Int)(n:Int):Option (List Kxb):=
 bi (loopM (σ:=(List Kxb)×Int) (ρ:=List Kxb) (fun s2=>bif decide ((s2.2:Int)<n) then(bi (getZ s2.1 (wi (b+s2.2))) fun x12=>bi (getZ s2.1 (wi (a+s2.2))) fun x15=>bi (getZ s2.1 (wi (a+s2.2))) fun x18=>bi (getZ s2.1 (wi (b+s2.2))) fun x21=>bi (getZ (s2.1.set ((wi (a+s2.2)).toNat) x12) (((wi (b+s2.2)).toNat:Nat):Int)) fun x24=>some (.go ((s2.1.set ((wi (a+s2.2)).toNat) x12).set ((wi (b+s2.2)).toNat) x15,wi (s2.2+1)))) else(some (.out s2.1))) k (data,0)) fun q4=>some q4
def Kyq(k:Nat)(data:List Kxb)(a:Int)(m:Int)(b:Int):Option (List Kxb):=
 bi (loopM (σ:=(List Kxb)×Int×Int) (ρ:=(List Kxb)×Int) (fun s2=>bif (s2.2.1:Int) != s2.2.2 then(bif decide ((s2.2.1:Int)>s2.2.2) then(bi (Kyp k s2.1 (wi (m - s2.2.1)) m s2.2.2) fun y13=>gd (decide (y13.length=s2.1.length)) (some (.go (y13,wi (s2.2.1 - s2.2.2),s2.2.2)))) else(bi (Kyp k s2.1 (wi (m - s2.2.1)) (wi ((wi (m+s2.2.2)) - s2.2.1)) s2.2.1) fun y18=>gd (decide (y18.length=s2.1.length)) (some (.go (y18,s2.2.1,wi (s2.2.2 - s2.2.1)))))) else(some (.out (s2.1,s2.2.1)))) k (data,wi (m - a),wi (b - m))) fun q4=>bi (Kyp k q4.1 (wi (m - q4.2)) m q4.2) fun y23=>some y23
def Kyr:Nat→(List Kxb)→Int→Int→Int→Option (List Kxb)
 | 0,_,_,_,_=>none
 | k+1,data,a,m,b=>bif (wi (m - a):Int)==1 then(bi (loopM (σ:=Int×Int) (ρ:=Int) (fun s3=>bif decide ((s3.1:Int)<s3.2) then(bi (getZ data (wi (shrV .u64 (IntKind.u64.wrap (wi (s3.1+s3.2))) 1))) fun x13=>bi (getZ data a) fun x16=>bi (Kyd x13 x16) fun y19=>bif decide ((y19:Int)<0) then(some (.go (wi ((wi (shrV .u64 (IntKind.u64.wrap (wi (s3.1+s3.2))) 1))+1),s3.2))) else(some (.go (s3.1,wi (shrV .u64 (IntKind.u64.wrap (wi (s3.1+s3.2))) 1))))) else(some (.out s3.1))) k (m,b)) fun q5=>bi (loopM (σ:=(List Kxb)×Int) (ρ:=List Kxb) (fun s25=>bif decide ((s25.2:Int)<(wi (q5 - 1))) then(bi (getZ s25.1 (wi (s25.2+1))) fun x35=>bi (getZ s25.1 s25.2) fun x38=>bi (getZ s25.1 s25.2) fun x41=>bi (getZ s25.1 (wi (s25.2+1))) fun x44=>bi (getZ (s25.1.set s25.2.toNat x35) (((wi (s25.2+1)).toNat:Nat):Int)) fun x47=>some (.go ((s25.1.set s25.2.toNat x35).set ((wi (s25.2+1)).toNat) x38,wi (s25.2+1)))) else(some (.out s25.1))) k (data,a)) fun q27=>some q27) else(bif (wi (b - m):Int)==1 then(bi (loopM (σ:=Int×Int) (ρ:=Int) (fun s54=>bif decide ((s54.1:Int)<s54.2) then(bi (getZ data m) fun x64=>bi (getZ data (wi (shrV .u64 (IntKind.u64.wrap (wi (s54.1+s54.2))) 1))) fun x67=>bi (Kyd x64 x67) fun y70=>bif !(decide ((y70:Int)<0)) then(some (.go (wi ((wi (shrV .u64 (IntKind.u64.wrap (wi (s54.1+s54.2))) 1))+1),s54.2))) else(some (.go (s54.1,wi (shrV .u64 (IntKind.u64.wrap (wi (s54.1+s54.2))) 1))))) else(some (.out s54.1))) k (a,m)) fun q56=>bi (loopM (σ:=(List Kxb)×Int) (ρ:=List Kxb) (fun s76=>bif decide ((s76.2:Int)>q56) then(bi (getZ s76.1 (wi (s76.2 - 1))) fun x86=>bi (getZ s76.1 s76.2) fun x89=>bi (getZ s76.1 s76.2) fun x92=>bi (getZ s76.1 (wi (s76.2 - 1))) fun x95=>bi (getZ (s76.1.set s76.2.toNat x86) (((wi (s76.2 - 1)).toNat:Nat):Int)) fun x98=>some (.go ((s76.1.set s76.2.toNat x86).set ((wi (s76.2 - 1)).toNat) x89,wi (s76.2 - 1)))) else(some (.out s76.1))) k (data,m)) fun q78=>some q78) else(bi (bif decide ((m:Int)>(wi (shrV .u64 (IntKind.u64.wrap (wi (a+b))) 1))) then(some (wi ((wi ((wi (shrV .u64 (IntKind.u64.wrap (wi (a+b))) 1))+m)) - b),wi (shrV .u64 (IntKind.u64.wrap (wi (a+b))) 1))) else(some (a,m))) fun q103=>bi (loopM (σ:=Int×Int) (ρ:=Int) (fun s108=>bif decide ((s108.1:Int)<s108.2) then(bi (getZ data (wi ((wi ((wi ((wi (shrV .u64 (IntKind.u64.wrap (wi (a+b))) 1))+m)) - 1)) - (wi (shrV .u64 (IntKind.u64.wrap (wi (s108.1+s108.2))) 1))))) fun x118=>bi (getZ data (wi (shrV .u64 (IntKind.u64.wrap (wi (s108.1+s108.2))) 1))) fun x121=>bi (Kyd x118 x121) fun y124=>bif !(decide ((y124:Int)<0)) then(some (.go (wi ((wi (shrV .u64 (IntKind.u64.wrap (wi (s108.1+s108.2))) 1))+1),s108.2))) else(some (.go (s108.1,wi (shrV .u64 (IntKind.u64.wrap (wi (s108.1+s108.2))) 1))))) else(some (.out s108.1))) k (q103.1,q103.2)) fun q110=>bi (bif ((decide ((q110:Int)<m))&&(decide ((m:Int)<(wi ((wi ((wi (shrV .u64 (IntKind.u64.wrap (wi (a+b))) 1))+m)) - q110))))) then(bi (Kyq k data q110 m (wi ((wi ((wi (shrV .u64 (IntKind.u64.wrap (wi (a+b))) 1))+m)) - q110))) fun y132=>gd (decide (y132.length=data.length)) (some y132)) else(some data)) fun q129=>bi (bif ((decide ((a:Int)<q110))&&(decide ((q110:Int)<(wi (shrV .u64 (IntKind.u64.wrap (wi (a+b))) 1))))) then(bi (Kyr k q129 a q110 (wi (shrV .u64 (IntKind.u64.wrap (wi (a+b))) 1))) fun y140=>gd (decide (y140.length=q129.length)) (some y140)) else(some q129)) fun q137=>bif ((decide ((wi (shrV .u64 (IntKind.u64.wrap (wi (a+b))) 1):Int)<(wi ((wi ((wi (shrV .u64 (IntKind.u64.wrap (wi (a+b))) 1))+m)) - q110))))&&(decide ((wi ((wi ((wi (shrV .u64 (IntKind.u64.wrap (wi (a+b))) 1))+m)) - q110):Int)<b))) then(bi (Kyr k q137 (wi (shrV .u64 (IntKind.u64.wrap (wi (a+b))) 1)) (wi ((wi ((wi (shrV .u64 (IntKind.u64.wrap (wi (a+b))) 1))+m)) - q110)) b) fun y146=>some y146) else(some q137)))
def Kys(k:Nat)(data:List Kxb)(n:Int):Option (List Kxb):=
 bi (loopM (σ:=(List Kxb)×Int×Int) (ρ:=(List Kxb)×Int) (fun s2=>bif decide ((s2.2.2:Int)≤n) then(bi (Kyo k s2.1 s2.2.1 s2.2.2) fun y12=>gd (decide (y12.length=s2.1.length)) (some (.go (y12,s2.2.2,wi (s2.2.2+20))))) else(some (.out (s2.1,s2.2.1)))) k (data,0,20)) fun q4=>bi (Kyo k q4.1 q4.2 n) fun y17=>gd (decide (y17.length=q4.1.length)) (bi (loopM (σ:=(List Kxb)×Int) (ρ:=List Kxb) (fun s22=>bif decide ((s22.2:Int)<n) then(bi (loopM (σ:=(List Kxb)×Int×Int) (ρ:=(List Kxb)×Int) (fun s33=>bif decide ((s33.2.2:Int)≤n) then(bi (Kyr k s33.1 s33.2.1 (wi (s33.2.1+s22.2)) s33.2.2) fun y43=>gd (decide (y43.length=s33.1.length)) (some (.go (y43,s33.2.2,wi (s33.2.2+(wi (2 * s22.2))))))) else(some (.out (s33.1,s33.2.1)))) k (s22.1,0,wi (2 * s22.2))) fun q35=>bif decide ((wi (q35.2+s22.2):Int)<n) then(bi (Kyr k q35.1 q35.2 (wi (q35.2+s22.2)) n) fun y49=>gd (decide (y49.length=q35.1.length)) (some (.go (y49,wi (s22.2 * 2))))) else(some (.go (q35.1,wi (s22.2 * 2))))) else(some (.out s22.1))) k (y17,20)) fun q24=>some q24)
def Kyt(k:Nat)(x:List Kxb):Option (List Kxb):=
 bi (Kys k x (x.length:Int)) fun y1=>some y1
def Kyu(k:Nat)(s:List Kxb):Option (List Kxb):=
 bif decide (((s.length:Int):Int)<2) then(some s) else(bi (loopM (σ:=Int) (ρ:=Unit ⊕ (List Kxb)) (fun s4=>bif decide ((s4:Int)<(s.length:Int)) then(bi (getZ s s4) fun x14=>bi (getZ s (wi (s4 - 1))) fun x17=>bif (((x14.At:Int)==x17.At)&&(((x14.Node:Str)==x17.Node)&&(((x14.Name:Str)==x17.Name)&&((((x14.Value.Kind:Int)==x17.Value.Kind)&&(((x14.Value.Number:Int)==x17.Value.Number)&&(((x14.Value.Words:Str)==x17.Value.Words)&&(decide (([x14.Value.Version.1,x14.Value.Version.2.1,x14.Value.Version.2.2.1,x14.Value.Version.2.2.2]:List Int)=[x17.Value.Version.1,x17.Value.Version.2.1,x17.Value.Version.2.2.1,x17.Value.Version.2.2.2])&&true))))&&true)))) then(bi (subZ s s4 (s.length:Int)) fun z21=>bi (loopM (σ:=(List Kxb)×Int×Int) (ρ:=(List Kxb)×Int) (fun s24=>bif decide ((s24.2.2:Int)<(z21.length:Int)) then(bi (getZ z21 s24.2.2) fun x34=>bi (getZ s24.1 (((s4.toNat+s24.2.2.toNat):Nat):Int)) fun x36=>bi (getZ z21 (wi (s24.2.2 - 1))) fun x39=>bi (getZ s24.1 (((s4.toNat+(wi (s24.2.2 - 1)).toNat):Nat):Int)) fun x41=>bif !(((x36.At:Int)==x41.At)&&(((x36.Node:Str)==x41.Node)&&(((x36.Name:Str)==x41.Name)&&((((x36.Value.Kind:Int)==x41.Value.Kind)&&(((x36.Value.Number:Int)==x41.Value.Number)&&(((x36.Value.Words:Str)==x41.Value.Words)&&(decide (([x36.Value.Version.1,x36.Value.Version.2.1,x36.Value.Version.2.2.1,x36.Value.Version.2.2.2]:List Int)=[x41.Value.Version.1,x41.Value.Version.2.1,x41.Value.Version.2.2.1,x41.Value.Version.2.2.2])&&true))))&&true)))) then(bi (getZ z21 s24.2.2) fun x45=>bi (getZ s24.1 (((s4.toNat+s24.2.2.toNat):Nat):Int)) fun x47=>bi (getZ s24.1 s24.2.1) fun x50=>some (.go (s24.1.set s24.2.1.toNat x47,wi (s24.2.1+1),wi (s24.2.2+1)))) else(some (.go (s24.1,s24.2.1,wi (s24.2.2+1))))) else(some (.out (s24.1,s24.2.1)))) k (s,s4,1)) fun q26=>bi (subZ q26.1 q26.2 (q26.1.length:Int)) fun z55=>bi (some (q26.1.take q26.2.toNat)) fun v=>some (.out (.inr v))) else(some (.go (wi (s4+1))))) else(some (.out (.inl ())))) k 1) fun q=>orI q fun a8=>some s)
def Kyv(k:Nat)(a:List Kxb)(b:List Kxb):Option ((List Kxb)×Int):=
 bi (loopM (σ:=Int) (ρ:=Unit ⊕ ((List Kxb)×Int)) (fun s2=>bif decide ((s2:Int)<2) then(bi (getZ ([a,b]:List (List Kxb)) s2) fun x12=>bi (Kye k x12) fun y14=>bif (y14:Int) != 0 then(bi (some ([],y14)) fun v=>some (.out (.inr v))) else(some (.go (wi (s2+1))))) else(some (.out (.inl ())))) k 0) fun q=>orI q fun a6=>bi (Kxr a) fun y21=>bi (apd y21 b) fun y23=>bi (Kyt k y23) fun y25=>gd (decide (y25.length=y23.length)) (bi (Kyu k y25) fun y29=>bi (loopM (σ:=Int) (ρ:=Unit ⊕ ((List Kxb)×Int)) (fun s32=>bif decide ((s32:Int)<(y29.length:Int)) then(bi (getZ y29 (wi (s32 - 1))) fun x42=>bi (getZ y29 s32) fun x45=>bi (Kyd x42 x45) fun y48=>bif (y48:Int)==0 then(bi (some ([],13)) fun v=>some (.out (.inr v))) else(some (.go (wi (s32+1))))) else(some (.out (.inl ())))) k 1) fun q=>orI q fun a36=>bif decide (((y29.length:Int):Int)>2000) then(some ([],2)) else(some (y29,0)))
def Kyw(s1:List Int)(s2:List Int):Option Int:=
 bi (rangeM (σ:=Unit) (ρ:=Int) (fun i1 x4 s3=>bif decide (((i1:Int):Int)≥(s2.length:Int)) then(bi (some 1) fun v=>some (.out v)) else(bi (getZ s2 (i1:Int)) fun x17=>bi (Kyb x4 x17) fun y19=>bif (y19:Int) != 0 then(bi (some y19) fun v=>some (.out v)) else(some (.go ())))) 0 s1 ()) fun q=>goI q fun a7=>bif decide (((s1.length:Int):Int)<(s2.length:Int)) then(some (-1)) else(some 0)
def Kyx(a:Kxa)(b:Kxa):Option Int:=
 bi (Kyb a.Number b.Number) fun y1=>bi (Ksg a.Words b.Words) fun y3=>bi (Kyw ([a.Version.1,a.Version.2.1,a.Version.2.2.1,a.Version.2.2.2]:List Int) ([b.Version.1,b.Version.2.1,b.Version.2.2.1,b.Version.2.2.2]:List Int)) fun y5=>bi (Kyc [y1,y3,y5]) fun y7=>some y7
def Kyy(k:Nat)(a:Kxa)(b:Kxa):Option (Int×Bool×Int):=
 bi (loopM (σ:=Int) (ρ:=Unit ⊕ (Int×Bool×Int)) (fun s2=>bif decide ((s2:Int)<2) then(bi (getZ ([a,b]:List Kxa) s2) fun x12=>bi (Kxz k x12) fun y14=>bif (y14:Int) != 0 then(bi (some (0,false,y14)) fun v=>some (.out (.inr v))) else(some (.go (wi (s2+1))))) else(some (.out (.inl ())))) k 0) fun q=>orI q fun a6=>bif (a.Kind:Int) != b.Kind then(some (0,false,0)) else(bi (Kyx a b) fun y23=>some (y23,true,0))
def Kyz(n:Int)(low:Int)(high:Int):Option Bool:=
 some ((decide ((low:Int)≤n))&&(decide ((n:Int)≤high)))
def Kza(v_at:Int):Option Bool:=
 bi (Kyz v_at 0 345686399) fun y1=>some y1
def Kzb(s:Str)(v_some:Str):Option Bool:=
 bi (Krz s v_some) fun y1=>some ((y1:Str)==[])
def Kzc(s:Str):Option Bool:=
 bi (Kyz (s.length:Int) 1 40) fun y1=>bi (bif y1 then(bi (subZ s 0 1) fun z6=>bi (Kzb z6 [97,98,99,100,101,102,103,104,105,106,107,108,109,110,111,112,113,114,115,116,117,118,119,120,121,122]) fun y8=>some y8) else(some false)) fun q3=>bi (bif q3 then(bi (Kzb s [97,98,99,100,101,102,103,104,105,106,107,108,109,110,111,112,113,114,115,116,117,118,119,120,121,122,48,49,50,51,52,53,54,55,56,57,45,95]) fun y14=>some y14) else(some false)) fun q11=>some q11
def Kzd(n:Int)(low:Int)(high:Int):Option Bool:=
 some ((decide ((low:Int)≤n))&&(decide ((n:Int)≤high)))
def Kze(k:Nat)(a:Kxa):Option Int:=
 bi (Kzd a.Kind 1 4) fun y1=>bif !y1 then(some 4) else(bi (bif (a.Kind:Int)==1 then(bi (Kzd a.Number (-100000000) 100000000) fun y8=>some (!y8)) else(some false)) fun q5=>bi (bif q5 then(some true) else(bi (bif (a.Kind:Int)==3 then(bi (Kzd a.Number 0 1) fun y18=>some (!y18)) else(some false)) fun q15=>some q15)) fun q11=>bif q11 then(some 1) else(bif ((((a.Kind:Int) != 1)&&((a.Kind:Int) != 3))&&((a.Number:Int) != 0)) then(some 3) else(bif ((((a.Kind:Int) != 2)&&(!((a.Words:Str)==[])))||(decide (((a.Words.length:Int):Int)>100))) then(some 3) else(bi (gd (decide ((a.Words.length:Int)≤9223372036854775807)) (rangeI (σ:=Unit) (ρ:=Int) (fun i27 s28=>bi (getZ a.Words (i27:Int)) fun c39=>bi (Kzd (wi ((c39.toNat:Int))) 32 126) fun y41=>bif !y41 then(bi (some 3) fun v=>some (.out v)) else(some (.go ()))) (a.Words.length:Int) ())) fun q=>goI q fun a32=>bi (loopM (σ:=Int) (ρ:=Unit ⊕ Int) (fun s48=>bif decide ((s48:Int)<4) then(bi (getZ ([a.Version.1,a.Version.2.1,a.Version.2.2.1,a.Version.2.2.2]:List Int) s48) fun x58=>bi (bif (a.Kind:Int)==4 then(bi (Kzd x58 0 1000000) fun y63=>some (!y63)) else(some false)) fun q60=>bif q60 then(bi (some 1) fun v=>some (.out (.inr v))) else(some (.go (wi (s48+1))))) else(some (.out (.inl ())))) k 0) fun q=>orI q fun a52=>bif (((a.Kind:Int) != 4)&&(!decide (([a.Version.1,a.Version.2.1,a.Version.2.2.1,a.Version.2.2.2]:List Int)=([0,0,0,0]:List Int)))) then(some 3) else(some 0)))))
def Kzf(a:Kxb)(b:Kxb):Option Int:=
 bi (Kyb a.At b.At) fun y1=>bi (Ksg a.Node b.Node) fun y3=>bi (Ksg a.Name b.Name) fun y5=>bi (Kyc [y1,y3,y5]) fun y7=>some y7
def Kzg(k:Nat)(l:List Kxb):Option Int:=
 bif decide (((l.length:Int):Int)>2000) then(some 2) else(bi (rangeM (σ:=Unit) (ρ:=Int) (fun i3 x5 s4=>bi (Kza x5.At) fun y14=>bif !y14 then(bi (some 1) fun v=>some (.out v)) else(bi (Kzc x5.Node) fun y20=>bi (bif !y20 then(some true) else(bi (Kzc x5.Name) fun y26=>some (!y26))) fun q22=>bif q22 then(bi (some 5) fun v=>some (.out v)) else(bi (Kze k x5.Value) fun y32=>bif (y32:Int) != 0 then(bi (some y32) fun v=>some (.out v)) else(bi (bif decide (((i3:Int):Int)>0) then(bi (getZ l (wi ((i3:Int) - 1))) fun x41=>bi (Kzf x41 x5) fun y43=>some (decide ((y43:Int)≥0))) else(some false)) fun q38=>bif q38 then(bi (some 7) fun v=>some (.out v)) else(some (.go ())))))) 0 l ()) fun q=>goI q fun a8=>some 0)
def Kzh(fresh:Int):Option Int:=
 bi (Kzd fresh 1 345686400) fun y1=>bif !y1 then(some 1) else(some 0)
def Kzi(s:Str):Option Int:=
 bi (Kzc s) fun y1=>bif !y1 then(some 5) else(some 0)
def Kzj(s:Str):Option Int:=
 bi (Kzi s) fun y1=>some y1
def Kzk(v_at:Int):Option Int:=
 bi (Kza v_at) fun y1=>bif !y1 then(some 1) else(some 0)
def Kzl(vals:List Int):Option Int:=
 bi (rangeM (σ:=Unit) (ρ:=Int) (fun i1 x3 s2=>bif (x3:Int) != 0 then(bi (some x3) fun v=>some (.out v)) else(some (.go ()))) 0 vals ()) fun q=>goI q fun a6=>some 0
def kHit(node:Str)(name:Str)(v_at:Int)(c:Kxb):Bool:=(c.Node==node)&&((c.Name==name)&&decide (c.At≤v_at))
def Kzm(l:List Kxb)(fresh:Int)(node:Str)(name:Str)(v_at:Int):Option (Kxa×Bool):=
 gd (Nat.ble l.length 4294967296) (some (kGo (kHit node name v_at) fresh v_at l.reverse))
def Kzn(s:List Kxb)(v:Kxb):Option Int:=
 bi (rangeM (σ:=Unit) (ρ:=Int) (fun i1 x3 s2=>bif (((v.At:Int)==x3.At)&&(((v.Node:Str)==x3.Node)&&(((v.Name:Str)==x3.Name)&&((((v.Value.Kind:Int)==x3.Value.Kind)&&(((v.Value.Number:Int)==x3.Value.Number)&&(((v.Value.Words:Str)==x3.Value.Words)&&(decide (([v.Value.Version.1,v.Value.Version.2.1,v.Value.Version.2.2.1,v.Value.Version.2.2.2]:List Int)=[x3.Value.Version.1,x3.Value.Version.2.1,x3.Value.Version.2.2.1,x3.Value.Version.2.2.2])&&true))))&&true)))) then(bi (some (i1:Int)) fun v=>some (.out v)) else(some (.go ()))) 0 s ()) fun q=>goI q fun a6=>some (-1)
def Kzo(s:List Kxb)(v:Kxb):Option Bool:=
 bi (Kzn s v) fun y1=>some (decide ((y1:Int)≥0))
def Kzp(k:Nat)(a:List Kxb)(b:List Kxb):Option ((List Kxb)×Bool):=
 bi (Kxr a) fun y1=>bi (rangeF (σ:=List Kxb) (fun i3 x5 s4=>bi (Kzo s4 x5) fun y14=>bif !y14 then(bi (apd s4 [x5]) fun y17=>some y17) else(some s4)) 0 b y1) fun q6=>sortD (fun a b=>Kzf a b) q6 fun y20=>gd (decide (y20.length=q6.length)) (bi (loopM (σ:=Int) (ρ:=Unit ⊕ ((List Kxb)×Bool)) (fun s27=>bif decide ((s27:Int)<(y20.length:Int)) then(bi (getZ y20 (wi (s27 - 1))) fun x37=>bi (getZ y20 s27) fun x40=>bi (Kzf x37 x40) fun y43=>bif (y43:Int)==0 then(bi (some ([],false)) fun v=>some (.out (.inr v))) else(some (.go (wi (s27+1))))) else(some (.out (.inl ())))) k 1) fun q=>orI q fun a31=>some (y20,true))
def Kzq(k:Nat)(a:List Kxb)(b:List Kxb):Option ((List Kxb)×Int):=
 bi (Kzp k a b) fun y1=>bif !y1.2 then(some ([],13)) else(bif decide (((y1.1.length:Int):Int)>2000) then(some ([],2)) else(some (y1.1,0)))
def Kzr(s1:List Kxb)(s2:List Kxb):Option Bool:=
 bif ((s1.length:Int):Int) != (s2.length:Int) then(some false) else(bi (rangeM (σ:=Unit) (ρ:=Bool) (fun i3 x5 s4=>bi (getZ s2 (i3:Int)) fun x14=>bif !(((x5.At:Int)==x14.At)&&(((x5.Node:Str)==x14.Node)&&(((x5.Name:Str)==x14.Name)&&((((x5.Value.Kind:Int)==x14.Value.Kind)&&(((x5.Value.Number:Int)==x14.Value.Number)&&(((x5.Value.Words:Str)==x14.Value.Words)&&(decide (([x5.Value.Version.1,x5.Value.Version.2.1,x5.Value.Version.2.2.1,x5.Value.Version.2.2.2]:List Int)=[x14.Value.Version.1,x14.Value.Version.2.1,x14.Value.Version.2.2.1,x14.Value.Version.2.2.2])&&true))))&&true)))) then(bi (some false) fun v=>some (.out v)) else(some (.go ()))) 0 s1 ()) fun q=>goI q fun a8=>some true)
def Kzs(a:Kxa)(b:Kxa):Option (Int×Bool):=
 bif (a.Kind:Int) != b.Kind then(some (0,false)) else(bi (Kyb a.Number b.Number) fun y3=>bi (Ksg a.Words b.Words) fun y5=>bi (Kyw ([a.Version.1,a.Version.2.1,a.Version.2.2.1,a.Version.2.2.2]:List Int) ([b.Version.1,b.Version.2.1,b.Version.2.2.1,b.Version.2.2.2]:List Int)) fun y7=>bi (Kyc [y3,y5,y7]) fun y9=>some (y9,true))
def Kzt(c:Int):Option Bool:=
 some ((decide ((c:Int)≥48))&&(decide ((c:Int)≤57)))
def Kzu(k:Nat)(s:Str)(v_at:Int):Option Int:=
 bi (loopM (σ:=Int) (ρ:=Int) (fun s2=>bi (bif decide ((s2:Int)<(s.length:Int)) then(bi (getZ s s2) fun c14=>bi (Kzt (c14.toNat:Int)) fun y16=>some y16) else(some false)) fun q11=>bif q11 then(some (.go (wi (s2+1)))) else(some (.out s2))) k v_at) fun q4=>some q4
def Kzv(k:Nat)(s:Str)(most:Int):Option (Int×Bool):=
 bi (Krw s [45]) fun y1=>bi (bif (((y1:Str)==[])||(decide (((y1.length:Int):Int)>most))) then(some true) else(bi (getZ y1 0) fun c7=>some ((((c7.toNat:Int):Int)==48)&&(!((s:Str)==[48]))))) fun q3=>bif q3 then(some (0,false)) else(bi (loopM (σ:=Int) (ρ:=Unit ⊕ (Int×Bool)) (fun s12=>bif decide ((s12:Int)<(y1.length:Int)) then(bi (getZ y1 s12) fun c22=>bi (bif decide (((c22.toNat:Int):Int)<48) then(some true) else(bi (getZ y1 s12) fun c28=>some (decide (((c28.toNat:Int):Int)>57)))) fun q24=>bif q24 then(bi (some (0,false)) fun v=>some (.out (.inr v))) else(some (.go (wi (s12+1))))) else(some (.out (.inl ())))) k 0) fun q=>orI q fun a16=>bi (Ksh s) fun y35=>some (y35,true))
def Kzw(k:Nat)(s:Str):Option (Int×Bool):=
 bi (Kzv k s 9) fun y1=>some (y1.1,y1.2)
def Kzx(k:Nat)(t:Kxe)(s:Str):Option Kxe:=
 bi (getZ s t.v_at) fun c1=>bi (bif ((c1.toNat:Int):Int)==45 then(some (wi (t.v_at+1))) else(some t.v_at)) fun q3=>bi (Kzu k s q3) fun y7=>bi (subZ s t.v_at y7) fun z9=>bi (Kzw k z9) fun y11=>bif y11.2 then(some (⟨[118,97,108,117,101],t.v_at,y7,t.name,(⟨1,y11.1,[],(0,0,0,0)⟩:Kxa)⟩:Kxe)) else(some (⟨t.kind,t.v_at,y7,t.name,t.value⟩:Kxe))
def Kzy(k:Nat)(t:Kxe)(s:Str):Option Kxe:=
 bi (loopM (σ:=(List Int)×Int) (ρ:=(List Int) ⊕ Kxe) (fun s2=>bif decide ((s2.2:Int)<(s.length:Int)) then(bi (getZ s s2.2) fun c12=>bi (bif ((c12.toNat:Int):Int)==34 then(bi (strB s2.1) fun y18=>bi (bi (some (⟨[118,97,108,117,101],t.v_at,wi (s2.2+1),t.name,(⟨2,0,y18,(0,0,0,0)⟩:Kxa)⟩:Kxe)) fun v=>some (.out (.inr v))) fun v=>some (.inr v)) else(bif ((decide (((c12.toNat:Int):Int)<32))||(decide (((c12.toNat:Int):Int)>126))) then(bi (bi (some t) fun v=>some (.out (.inr v))) fun v=>some (.inr v)) else(bif ((c12.toNat:Int):Int)==92 then(bi (bif (wi (s2.2+1):Int)==(s.length:Int) then(some true) else(bi (getZ s (wi (s2.2+1))) fun c36=>bi (bif ((c36.toNat:Int):Int) != 34 then(bi (getZ s (wi (s2.2+1))) fun c41=>some (((c41.toNat:Int):Int) != 92)) else(some false)) fun q38=>some q38)) fun q32=>bif q32 then(bi (bi (some t) fun v=>some (.out (.inr v))) fun v=>some (.inr v)) else(bi (getZ s (wi (s2.2+1))) fun c50=>some (.inl (wi (s2.2+1),(c50.toNat:Int))))) else(some (.inl (s2.2,(c12.toNat:Int)))))):Option ((Int×Int) ⊕ (LS ((List Int)×Int) ((List Int) ⊕ Kxe)))) fun q=>orI q fun a16=>bi (apd s2.1 [a16.2]) fun y53=>some (.go (y53,wi (a16.1+1)))) else(some (.out (.inl s2.1)))) k (([]:List Int),wi (t.v_at+1))) fun q=>orI q fun a6=>some t
def Kzz(s:Str):Option Bool:=
 bi (bif decide (((s.length:Int):Int)>1) then(bi (getZ s 0) fun c4=>some (((c4.toNat:Int):Int)==118)) else(some false)) fun q1=>bi (bif q1 then(bi (getZ s 1) fun c10=>bi (Kzt (c10.toNat:Int)) fun y12=>some y12) else(some false)) fun q7=>some q7
def Laa(k:Nat)(l:List Str):Option ((List Int)×Bool):=
 bi (rangeM (σ:=List Int) (ρ:=(List Int)×Bool) (fun i1 x3 s2=>bi (Kzw k x3) fun y12=>bif !y12.2 then(bi (some ([],false)) fun v=>some (.out v)) else(bi (apd s2 [y12.1]) fun y18=>some (.go y18))) 0 l ([]:List Int)) fun q=>goI q fun a6=>some (a6,true)
def Lab(k:Nat)(t:Kxe)(s:Str):Option Kxe:=
 bi (loopM (σ:=Int) (ρ:=Int) (fun s2=>bi (bif decide ((s2:Int)<(s.length:Int)) then(bi (getZ s s2) fun c14=>bi (Kzt (c14.toNat:Int)) fun y16=>bi (bif y16 then(some true) else(bi (getZ s s2) fun c22=>some (((c22.toNat:Int):Int)==46))) fun q18=>some q18) else(some false)) fun q11=>bif q11 then(some (.go (wi (s2+1)))) else(some (.out s2))) k (wi (t.v_at+1))) fun q4=>bi (subZ s (wi (t.v_at+1)) q4) fun z27=>bi (Ksa z27 [46]) fun y29=>bi (Laa k y29) fun y31=>bif ((!y31.2)||(decide (((y29.length:Int):Int)>4))) then(some (⟨t.kind,t.v_at,q4,t.name,t.value⟩:Kxe)) else(some (⟨[118,97,108,117,101],t.v_at,q4,t.name,(⟨4,0,[],(cpA (0:Int).toNat y31.1 0 0,cpA (0:Int).toNat y31.1 1 0,cpA (0:Int).toNat y31.1 2 0,cpA (0:Int).toNat y31.1 3 0)⟩:Kxa)⟩:Kxe))
def Lac(c:Int):Option Bool:=
 bi (bif ((decide ((c:Int)≥97))&&(decide ((c:Int)≤122))) then(some true) else(bi (Kzt c) fun y5=>some y5)) fun q1=>some ((q1||((c:Int)==45))||((c:Int)==95))
def Lad(k:Nat)(t:Kxe)(s:Str):Option Kxe:=
 bi (loopM (σ:=Int) (ρ:=Int) (fun s2=>bi (bif decide ((s2:Int)<(s.length:Int)) then(bi (getZ s s2) fun c14=>bi (Lac (c14.toNat:Int)) fun y16=>some y16) else(some false)) fun q11=>bif q11 then(some (.go (wi (s2+1)))) else(some (.out s2))) k t.v_at) fun q4=>bi (subZ s t.v_at q4) fun z21=>bif (((z21:Str)==[116,114,117,101])||((z21:Str)==[102,97,108,115,101])) then(bif (z21:Str)==[116,114,117,101] then(some (⟨[118,97,108,117,101],t.v_at,q4,z21,(⟨3,1,[],(0,0,0,0)⟩:Kxa)⟩:Kxe)) else(some (⟨[118,97,108,117,101],t.v_at,q4,z21,(⟨3,0,[],(0,0,0,0)⟩:Kxa)⟩:Kxe))) else(some (⟨[110,97,109,101],t.v_at,q4,z21,t.value⟩:Kxe))
def Lae(k:Nat)(s:Str)(v_at:Int):Option Kxe:=
 bif (v_at:Int)==(s.length:Int) then(some (⟨[101,110,100],v_at,0,[],(⟨0,0,[],(0,0,0,0)⟩:Kxa)⟩:Kxe)) else(bi (rangeM (σ:=Unit) (ρ:=Kxe) (fun i3 x5 s4=>bi (subZ s v_at (s.length:Int)) fun z14=>bi (Krv z14 x5) fun y16=>bif y16 then(bi (some (⟨x5,v_at,wi (v_at+(x5.length:Int)),[],(⟨0,0,[],(0,0,0,0)⟩:Kxa)⟩:Kxe)) fun v=>some (.out v)) else(some (.go ()))) 0 [[61,61],[33,61],[60,61],[62,61],[38,38],[124,124],[60],[62],[33],[40],[41]] ()) fun q=>goI q fun a8=>bi (getZ s v_at) fun c22=>bi (bi (Kzt (c22.toNat:Int)) fun y26=>bi (bif y26 then(some true) else(bi (bif ((((c22.toNat:Int):Int)==45)&&(decide ((wi (v_at+1):Int)<(s.length:Int)))) then(bi (getZ s (wi (v_at+1))) fun c35=>bi (Kzt (c35.toNat:Int)) fun y37=>some y37) else(some false)) fun q32=>some q32)) fun q28=>bif q28 then(bi (Kzx k (⟨[98,97,100],v_at,0,[],(⟨0,0,[],(0,0,0,0)⟩:Kxa)⟩:Kxe) s) fun y41=>some y41) else(bif ((c22.toNat:Int):Int)==34 then(bi (Kzy k (⟨[98,97,100],v_at,0,[],(⟨0,0,[],(0,0,0,0)⟩:Kxa)⟩:Kxe) s) fun y45=>some y45) else(bi (subZ s v_at (s.length:Int)) fun z48=>bi (Kzz z48) fun y50=>bif y50 then(bi (Lab k (⟨[98,97,100],v_at,0,[],(⟨0,0,[],(0,0,0,0)⟩:Kxa)⟩:Kxe) s) fun y53=>some y53) else(bif ((decide (((c22.toNat:Int):Int)≥97))&&(decide (((c22.toNat:Int):Int)≤122))) then(bi (Lad k (⟨[98,97,100],v_at,0,[],(⟨0,0,[],(0,0,0,0)⟩:Kxa)⟩:Kxe) s) fun y57=>some y57) else(some (⟨[98,97,100],v_at,0,[],(⟨0,0,[],(0,0,0,0)⟩:Kxa)⟩:Kxe)))))) fun q24=>some q24)
def Laf(k:Nat)(p:Kxf):Option Kxf:=
 bi (loopM (σ:=Int) (ρ:=Int) (fun s2=>bi (bif decide ((s2:Int)<(p.s.length:Int)) then(bi (getZ p.s s2) fun c14=>bi (bif ((c14.toNat:Int):Int)==32 then(some true) else(bi (getZ p.s s2) fun c20=>some (((c20.toNat:Int):Int)==10))) fun q16=>some q16) else(some false)) fun q11=>bif q11 then(some (.go (wi (s2+1)))) else(some (.out s2))) k p.tok.v_end) fun q4=>bi (Lae k p.s q4) fun y25=>some (⟨p.s,y25,p.bad,p.v_at⟩:Kxf)
def Lag(p:Kxf):Option (Kxg×Kxf):=
 bi (bif !p.bad then(some (⟨p.s,p.tok,true,p.tok.v_at⟩:Kxf)) else(some p)) fun q1=>some ((⟨0,[],[],(⟨0,0,[],(0,0,0,0)⟩:Kxa),(KD.mk 0 [])⟩:Kxg),q1)
def Lah(s:List Str)(v:Str):Option Int:=
 bi (rangeM (σ:=Unit) (ρ:=Int) (fun i1 x3 s2=>bif (v:Str)==x3 then(bi (some (i1:Int)) fun v=>some (.out v)) else(some (.go ()))) 0 s ()) fun q=>goI q fun a6=>some (-1)
def Lai(s:List Str)(v:Str):Option Bool:=
 bi (Lah s v) fun y1=>some (decide ((y1:Int)≥0))
def Laj(op:Str):Option Bool:=
 bi (Lai [[61,61],[33,61],[60],[60,61],[62],[62,61]] op) fun y1=>some y1
def Lak(k:Nat)(p:Kxf):Option (Kxg×Kxf):=
 bi (Laf k p) fun y1=>bi (Laj y1.tok.kind) fun y3=>bif !y3 then(some ((⟨1,p.tok.name,[61,61],(⟨3,1,[],(0,0,0,0)⟩:Kxa),(KD.mk 0 [])⟩:Kxg),y1)) else(bi (Laf k y1) fun y7=>bif !((y7.tok.kind:Str)==[118,97,108,117,101]) then(bi (Lag y7) fun y10=>some (y10.1,y10.2)) else(bi (Laf k y7) fun y13=>some ((⟨1,p.tok.name,y1.tok.kind,y7.tok.value,(KD.mk 0 [])⟩:Kxg),y13)))
def Lal(rc_posture_parser_cond:Kxf→Option (Kxg×Kxf)):Nat→Kxf→Option (Kxg×Kxf)
 | 0,_=>none
 | k+1,p=>bif (p.tok.kind:Str)==[33] then(bi (Laf k p) fun y2=>bi (Lal rc_posture_parser_cond k y2) fun y4=>some ((⟨2,[],[],(⟨0,0,[],(0,0,0,0)⟩:Kxa),(pk Kxh [y4.1])⟩:Kxg),y4.2)) else(bif (p.tok.kind:Str)==[40] then(bi (Laf k p) fun y8=>bi (rc_posture_parser_cond y8) fun y10=>bif y10.2.bad then(some (y10.1,y10.2)) else(bif !((y10.2.tok.kind:Str)==[41]) then(bi (Lag y10.2) fun y15=>some (y15.1,y15.2)) else(bi (Laf k y10.2) fun y18=>some (y10.1,y18)))) else(bif (p.tok.kind:Str)==[110,97,109,101] then(bi (Lak k p) fun y22=>some (y22.1,y22.2)) else(bi (Lag p) fun y25=>some (y25.1,y25.2))))
def Lam(kind:Int)(l:List Kxg):Option Kxg:=
 bif ((l.length:Int):Int)==1 then(bi (getZ l 0) fun x2=>some x2) else(bi (rangeF (σ:=List Kxg) (fun i5 x7 s6=>bif (x7.Kind:Int)==kind then(bi (unK d_api_Cond 11 x7.Kids) fun l17=>bi (apd s6 l17) fun y19=>some y19) else(bi (apd s6 [x7]) fun y22=>some y22)) 0 l ([]:List Kxg)) fun q8=>some (⟨kind,[],[],(⟨0,0,[],(0,0,0,0)⟩:Kxa),(pk Kxh q8)⟩:Kxg))
def Lan(rc_posture_parser_cond:Kxf→Option (Kxg×Kxf))(k:Nat)(p:Kxf):Option (Kxg×Kxf):=
 bi (Lal rc_posture_parser_cond k p) fun y1=>bi (loopM (σ:=Kxf×(List Kxg)) (ρ:=Kxf×(List Kxg)) (fun s4=>bif ((!s4.1.bad)&&((s4.1.tok.kind:Str)==[38,38])) then(bi (Laf k s4.1) fun y14=>bi (Lal rc_posture_parser_cond k y14) fun y16=>bi (apd s4.2 [y16.1]) fun y18=>some (.go (y16.2,y18))) else(some (.out (s4.1,s4.2)))) k (y1.2,[y1.1])) fun q6=>bi (Lam 3 q6.2) fun y21=>some (y21,q6.1)
def Lao:Nat→Kxf→Option (Kxg×Kxf)
 | 0,_=>none
 | k+1,p=>bi (Lan (Lao k) k p) fun y1=>bi (loopM (σ:=Kxf×(List Kxg)) (ρ:=Kxf×(List Kxg)) (fun s4=>bif ((!s4.1.bad)&&((s4.1.tok.kind:Str)==[124,124])) then(bi (Laf k s4.1) fun y14=>bi (Lan (Lao k) k y14) fun y16=>bi (apd s4.2 [y16.1]) fun y18=>some (.go (y16.2,y18))) else(some (.out (s4.1,s4.2)))) k (y1.2,[y1.1])) fun q6=>bi (Lam 4 q6.2) fun y21=>some (y21,q6.1)
def Lap:Nat→Kxg→Option (Int×Int)
 | 0,_=>none
 | k+1,c=>bi (bif (c.Kind:Int)==1 then(some 1) else(some 0)) fun q1=>bi (unK d_api_Cond 11 c.Kids) fun l5=>bi (rangeF (σ:=Int×Int) (fun i7 x9 s8=>bi (Lap k x9) fun y18=>some (wi (s8.1+y18.1),(if y18.2>s8.2 then y18.2 else s8.2))) 0 l5 (q1,0)) fun q10=>some (q10.1,wi (q10.2+1))
def Laq(v_k:Kxg)(x:Kxg):Option Bool:=
 some ((v_k.Kind:Int)==x.Kind)
def Lar(s:List Kxg)(f:Kxg):Option Int:=
 bi (rangeM (σ:=Unit) (ρ:=Int) (fun i1 x3 s2=>bi (Laq x3 f) fun y12=>bif y12 then(bi (some (i1:Int)) fun v=>some (.out v)) else(some (.go ()))) 0 s ()) fun q=>goI q fun a6=>some (-1)
def Las(s:List Kxg)(f:Kxg):Option Bool:=
 bi (Lar s f) fun y1=>some (decide ((y1:Int)≥0))
def Lat(c:Kxg):Option Bool:=
 bi (unK d_api_Cond 11 c.Kids) fun l1=>bi (bif (c.Kind:Int)==1 then(bi (some (((l1.length:Int):Int)==0)) fun v=>some (.inr v)) else(bif (c.Kind:Int)==2 then(bif ((l1.length:Int):Int) != 1 then(bi (some false) fun v=>some (.inr v)) else(some (.inl ()))) else(bi (bif decide (((l1.length:Int):Int)<2) then(some true) else(bi (unK d_api_Cond 11 c.Kids) fun l20=>bi (Las l20 c) fun y22=>some y22)) fun q16=>bif q16 then(bi (some false) fun v=>some (.inr v)) else(some (.inl ())))):Option (Unit ⊕ Bool)) fun q=>orI q fun a5=>some ((((c.Name:Str)==[])&&((c.Op:Str)==[]))&&(((c.Value.Kind:Int)==0)&&(((c.Value.Number:Int)==0)&&(((c.Value.Words:Str)==[])&&(decide (([c.Value.Version.1,c.Value.Version.2.1,c.Value.Version.2.2.1,c.Value.Version.2.2.2]:List Int)=[0,0,0,0])&&true)))))
def Lau:Nat→Kxg→Option Int
 | 0,_=>none
 | k+1,c=>bi (Kxx c.Kind 1 4) fun y1=>bif y1 then(some 4) else(bi (Lat c) fun y5=>bif !y5 then(some 3) else(bi (bif (c.Kind:Int)==1 then(bi (Kxw k c.Name) fun y13=>bi (bif (((!y13)||((c.Name:Str)==[116,114,117,101]))||((c.Name:Str)==[102,97,108,115,101])) then(some true) else(bi (Kzz c.Name) fun y19=>some y19)) fun q15=>bif q15 then(bi (some 5) fun v=>some (.inr v)) else(bi (Laj c.Op) fun y25=>bif !y25 then(bi (some 10) fun v=>some (.inr v)) else(bi (Kxz k c.Value) fun y31=>bif (y31:Int) != 0 then(bi (some y31) fun v=>some (.inr v)) else(bif ((((c.Value.Kind:Int)==3)&&(!((c.Op:Str)==[61,61])))&&(!((c.Op:Str)==[33,61]))) then(bi (some 10) fun v=>some (.inr v)) else(some (.inl ())))))) else(some (.inl ())):Option (Unit ⊕ Int)) fun q=>orI q fun a11=>bi (unK d_api_Cond 11 c.Kids) fun l42=>bi (rangeM (σ:=Unit) (ρ:=Int) (fun i44 x46 s45=>bi (Lau k x46) fun y55=>bif (y55:Int) != 0 then(bi (some y55) fun v=>some (.out v)) else(some (.go ()))) 0 l42 ()) fun q=>goI q fun a49=>some 0))
def Lav(k:Nat)(c:Kxg):Option Int:=
 bi (Lap k c) fun y1=>bif ((decide ((y1.1:Int)>100))||(decide ((y1.2:Int)>30))) then(some 2) else(bi (Lau k c) fun y5=>some y5)
def Law(k:Nat)(text:Str):Option (Kxg×Int×Int):=
 bif decide (((text.length:Int):Int)>5000) then(some ((⟨0,[],[],(⟨0,0,[],(0,0,0,0)⟩:Kxa),(KD.mk 0 [])⟩:Kxg),0,2)) else(bi (Laf k (⟨text,(⟨[],0,0,[],(⟨0,0,[],(0,0,0,0)⟩:Kxa)⟩:Kxe),false,0⟩:Kxf)) fun y3=>bi (Lao k y3) fun y5=>bi (bif ((!y5.2.bad)&&(!((y5.2.tok.kind:Str)==[101,110,100]))) then(bi (Lag y5.2) fun y10=>some y10.2) else(some y5.2)) fun q7=>bif q7.bad then(some ((⟨0,[],[],(⟨0,0,[],(0,0,0,0)⟩:Kxa),(KD.mk 0 [])⟩:Kxg),q7.v_at,9)) else(bi (Lav k y5.1) fun y15=>bif (y15:Int) != 0 then(some ((⟨0,[],[],(⟨0,0,[],(0,0,0,0)⟩:Kxa),(KD.mk 0 [])⟩:Kxg),0,y15)) else(some (y5.1,0,0))))
def Lax(k:Nat):Option Bool:=
 bi (Law k [97]) fun y1=>some ((((y1.2.2:Int)==0)&&((y1.1.Kind:Int)==1))&&((y1.1.Name:Str)==[97]))
def Laz(k:Nat)(l:List Int)(al:List Bool):Option (Bool×(List Bool)):=
 bi (Kxk (⟨l,0⟩:Kwz) 0 4) fun y1=>bi (Kxq y1.2 y1.1) fun y3=>bi (Kxk y3.2 0 2) fun y5=>bi (Kxq y5.2 y5.1) fun y7=>bi (bif decide (((y3.1.length:Int):Int)>0) then(bi (Kxl y7.2 2) fun y12=>some (y12.2,y12.1)) else(some (y7.2,false))) fun q9=>bi (bif q9.2 then(bi (Kxj q9.1 (y3.1.length:Int)) fun y18=>bi (subZ y3.1 y18.1 (y3.1.length:Int)) fun z20=>bi (Kxr z20) fun y22=>bi (Kxl y18.2 5) fun y24=>bif y24.1 then(bi (Kxs y24.2) fun y27=>bi (getZ y22 0) fun x29=>some (y27.2,y22.set ((0:Int).toNat) (⟨x29.At,x29.Node,x29.Name,y27.1⟩:Kxb))) else(some (y24.2,y22))) else(some (q9.1,y7.1))) fun q15=>bi (Kxt q15.1) fun y34=>bi (Kxm y34.2 [[110,97],[110,98],[]]) fun y36=>bi (Kxm y36.2 [[111,115],[100,105,115,107],[118,101,114,115,105,111,110],[65]]) fun y38=>bi (Kxu y38.2) fun y40=>bi (Kxs y40.2) fun y42=>bi (Kxs y42.2) fun y44=>bi (Kyn k y3.1 y34.1 y36.1 y38.1 y40.1 al) fun y46=>bi (Kyv k y3.1 q15.2) fun y48=>bi (Kyy k y42.1 y44.1) fun y50=>bi (Kzg k y3.1) fun y52=>bi (Kye k y3.1) fun y54=>bif (y54:Int) != y52 then(some (false,y46.2.2.2)) else(bi (Kzh y34.1) fun y58=>bi (Kzj y36.1) fun y60=>bi (Kzj y38.1) fun y62=>bi (Kzk y40.1) fun y64=>bi (Kzl [y52,y58,y60,y62,y64]) fun y66=>bi (Kzg k q15.2) fun y68=>bi (Kzl [y52,y68]) fun y70=>bi (Kze k y42.1) fun y72=>bi (Kze k y44.1) fun y74=>bi (Kzl [y72,y74]) fun y76=>bi (bif (y66:Int)==0 then(bi (Kzm y3.1 y34.1 y36.1 y38.1 y40.1) fun y81=>some (y81.1,y81.2)) else(some ((⟨0,0,[],(0,0,0,0)⟩:Kxa),false))) fun q78=>bif ((((y46.2.2.1:Int) != y66)||(!(((y46.1.Kind:Int)==q78.1.Kind)&&(((y46.1.Number:Int)==q78.1.Number)&&(((y46.1.Words:Str)==q78.1.Words)&&(decide (([y46.1.Version.1,y46.1.Version.2.1,y46.1.Version.2.2.1,y46.1.Version.2.2.2]:List Int)=[q78.1.Version.1,q78.1.Version.2.1,q78.1.Version.2.2.1,q78.1.Version.2.2.2])&&true))))))||(!((y46.2.1:Bool)==q78.2))) then(some (false,y46.2.2.2)) else(bi (bif (y70:Int)==0 then(bi (Kzq k y3.1 q15.2) fun y89=>some (y89.2,y89.1)) else(some (y70,[]))) fun q86=>bi (bif (y48.2:Int) != q86.1 then(some true) else(bi (Kzr y48.1 q86.2) fun y96=>some (!y96))) fun q92=>bif q92 then(some (false,y46.2.2.2)) else(bi (bif (y76:Int)==0 then(bi (Kzs y42.1 y44.1) fun y103=>some (y103.1,y103.2)) else(some (0,false))) fun q100=>bi (bif ((((y50.2.2:Int)==y76)&&((y50.1:Int)==q100.1))&&((y50.2.1:Bool)==q100.2)) then(bi (Lax k) fun y109=>some y109) else(some false)) fun q106=>some (q106,y46.2.2.2))))
end
end Go.Gk
