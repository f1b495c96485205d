import Derived.Test.YthhdojhbohfmnaaGreatDoorMStr9
import Derived.Test.YthhdojhbohfmnaaGreatDoorMStrI
set_option linter.unusedVariables false
namespace Go.Gk
noncomputable section
structure Kyc where
 L:List Int
 v_at:Int
 deriving DecidableEq
structure Kyd where
 Kind:Int
 Number:Int
 Words:Str
 Version:(Int×Int×Int×Int)
 deriving DecidableEq
structure Kye where
 Kind:Int
 Name:Str
 Op:Str
 Value:Kyd
 Kids:KD
abbrev Kyf(x:Kye):List D:=[.v (.int .i64 x.Kind),.v (.string ⟨x.Name.toArray⟩),.v (.string ⟨x.Op.toArray⟩),.v (.int .i64 x.Value.Kind),.v (.int .i64 x.Value.Number),.v (.string ⟨x.Value.Words.toArray⟩),.v (.int .i64 x.Value.Version.1),.v (.int .i64 x.Value.Version.2.1),.v (.int .i64 x.Value.Version.2.2.1),.v (.int .i64 x.Value.Version.2.2.2),.ro x.Kids.n x.Kids.xs]
def d_api_Cond:List D→Option Kye
 | [c0,c1,c2,c3,c4,c5,c6,c7,c8,c9,c10]=>bi (rdI .i64 c0) fun y0=>bi (rdS c1) fun y1=>bi (rdS c2) fun y2=>bi (rdI .i64 c3) fun y3=>bi (rdI .i64 c4) fun y4=>bi (rdS c5) fun y5=>bi (rdI .i64 c6) fun y6=>bi (rdI .i64 c7) fun y7=>bi (rdI .i64 c8) fun y8=>bi (rdI .i64 c9) fun y9=>bi (rdK c10) fun y10=>some (⟨y0,y1,y2,(⟨y3,y4,y5,(y6,y7,y8,y9)⟩:Kyd),y10⟩:Kye)
 | _=>none
theorem Ldg:DecOk Kyf d_api_Cond:=by
 intro ds x h
 unfold d_api_Cond at h
 split at h
 ·obtain⟨y0,hy0,h⟩:=Kfx h
  obtain⟨y1,hy1,h⟩:=Kfx h
  obtain⟨y2,hy2,h⟩:=Kfx h
  obtain⟨y3,hy3,h⟩:=Kfx h
  obtain⟨y4,hy4,h⟩:=Kfx h
  obtain⟨y5,hy5,h⟩:=Kfx h
  obtain⟨y6,hy6,h⟩:=Kfx h
  obtain⟨y7,hy7,h⟩:=Kfx h
  obtain⟨y8,hy8,h⟩:=Kfx h
  obtain⟨y9,hy9,h⟩:=Kfx h
  obtain⟨y10,hy10,h⟩:=Kfx h
  obtain rfl:=Kmw hy0
  obtain rfl:=Kmx hy1
  obtain rfl:=Kmx hy2
  obtain rfl:=Kmw hy3
  obtain rfl:=Kmw hy4
  obtain rfl:=Kmx hy5
  obtain rfl:=Kmw hy6
  obtain rfl:=Kmw hy7
  obtain rfl:=Kmw hy8
  obtain rfl:=Kmw hy9
  obtain rfl:=Kmy hy10
  cases h
  rfl
 cases h
theorem Ldh(x:Kye):d_api_Cond (Kyf x)=some x:=by
 cases x
 simp[Kyf,d_api_Cond]
structure Kyg where
 Key:Str
 Cond:Kye
structure Kyh where
 At:Int
 Node:Str
 Name:Str
 Value:Kyd
 deriving DecidableEq
structure Kyi where
 node:Str
 name:Str
 deriving DecidableEq
structure Kyj where
 fresh:Int
 list:List (Kyi×(Tl Kyh))
 deriving DecidableEq
structure Kyk where
 Node:Str
 Posture:Str
 deriving DecidableEq
structure Kyl where
 is:Int
 proof:List Int
 deriving DecidableEq
structure Kym where
 kind:Str
 v_at:Int
 v_end:Int
 name:Str
 value:Kyd
 deriving DecidableEq
structure Kyn where
 s:Str
 tok:Kym
 bad:Bool
 v_at:Int
 deriving DecidableEq
def Kyo(x:Int)(n:Int):Option Int:=
 bif decide ((n:Int)<1) then(some 0) else(bi (remZ x n) fun y3=>bi (bif decide ((y3:Int)<0) then(some (wi (y3+n))) else(some y3)) fun q5=>some q5)
def Kyp(s:Kyc)(n:Int):Option (Int×Kyc):=
 bif ((s.L.length:Int):Int)==0 then(bi (Kyo (wi ((wi (s.v_at+1)) * 7919)) n) fun y2=>some (y2,(⟨s.L,wi (s.v_at+1)⟩:Kyc))) else(bi (remZ (wi ((wi (s.v_at+1)) - 1)) (s.L.length:Int)) fun y5=>bi (divZ .i64 (wi ((wi (s.v_at+1)) - 1)) (s.L.length:Int)) fun y7=>bi (getZ s.L y5) fun x9=>bi (Kyo x9 1073741824) fun y11=>bi (Kyo (wi (y11+(wi (y7 * (wi (7919+y5)))))) n) fun y13=>some (y13,(⟨s.L,wi (s.v_at+1)⟩:Kyc)))
def Kyq(s:Kyc)(n:Int):Option (Bool×Kyc):=
 bi (Kyp s n) fun y1=>some ((y1.1:Int)==0,y1.2)
def Kyr(s:Kyc)(l:List Str):Option (Str×Kyc):=
 bi (Kyp s (l.length:Int)) fun y1=>bi (getZ l y1.1) fun x3=>some (x3,y1.2)
def Kys  : Option (List Str):=
 some [[61,61],[33,61],[60],[60,61],[62],[62,61]]
def Kyt(s:Kyc)(l:List Int):Option (Int×Kyc):=
 bi (Kyp s (l.length:Int)) fun y1=>bi (getZ l y1.1) fun x3=>some (x3,y1.2)
def Kyu:Nat→Kyc→Int→Option (Kye×Kyc)
 | 0,_,_=>none
 | k+1,s,most=>bi (bif (most:Int)==0 then(some (s,true)) else(bi (Kyq s 3) fun y5=>some (y5.2,y5.1))) fun q1=>bif q1.2 then(bi (Kyp q1.1 4) fun y8=>bif (y8.1:Int)==0 then(bi (Kyr y8.2 [[61,61],[61,61],[33,61]]) fun y11=>bi (Kyp y11.2 2) fun y13=>some ((⟨1,[100,105,115,107],y11.1,(⟨3,y13.1,[],(0,0,0,0)⟩:Kyd),(pk Kyf ([]:List Kye))⟩:Kye),y13.2)) else(bif (y8.1:Int)==1 then(bi Kys fun y17=>bi (Kyr y8.2 y17) fun y19=>bi (Kyt y19.2 [2,5,12]) fun y21=>some ((⟨1,[118,101,114,115,105,111,110],y19.1,(⟨4,0,[],(1,y21.1,0,0)⟩:Kyd),(pk Kyf ([]:List Kye))⟩:Kye),y21.2)) else(bif (y8.1:Int)==2 then(bi (Kyr y8.2 [[115,105,122,101],[111,115]]) fun y25=>bi Kys fun y27=>bi (Kyr y25.2 y27) fun y29=>bi (Kyt y29.2 [0,5,-3]) fun y31=>some ((⟨1,y25.1,y29.1,(⟨1,y31.1,[],(0,0,0,0)⟩:Kyd),(pk Kyf ([]:List Kye))⟩:Kye),y31.2)) else(bi Kys fun y34=>bi (Kyr y8.2 y34) fun y36=>bi (Kyr y36.2 [[108,105,110,117,120],[109,97,99],[120,34,121,92,122]]) fun y38=>some ((⟨1,[111,115],y36.1,(⟨2,0,y38.1,(0,0,0,0)⟩:Kyd),(pk Kyf ([]:List Kye))⟩:Kye),y38.2))))) else(bi (Kyt q1.1 [2,3,4]) fun y41=>bi (bif (y41.1:Int) != 2 then(bi (Kyt y41.2 [2,2,3]) fun y46=>some (y46.2,y46.1)) else(some (y41.2,1))) fun q43=>bi (gd (decide (q43.2≤9223372036854775807)) (rangeG (σ:=Kyc×(List Kye)) (fun i49 s50=>bi (Kyu k s50.1 (wi (most - 1))) fun y61=>bif (((y61.1.Kind:Int)==y41.1)&&((y41.1:Int) != 2)) then(bi (unK d_api_Cond 11 y61.1.Kids) fun l64=>bi (apd s50.2 l64) fun y66=>some (y61.2,y66)) else(bi (apd s50.2 [y61.1]) fun y69=>some (y61.2,y69))) q43.2 (q43.1,([]:List Kye)))) fun q52=>some ((⟨y41.1,[],[],(⟨0,0,[],(0,0,0,0)⟩:Kyd),(pk Kyf q52.2)⟩:Kye),q52.1))
def Kyv(s:Kyc)(low:Int)(high:Int):Option (Int×Kyc):=
 bif decide ((high:Int)<low) then(some (low,s)) else(bi (Kyp s (wi ((wi (high - low))+1))) fun y3=>some (wi (low+y3.1),y3.2))
def Kyw(s:Kyc)(low:Int)(high:Int):Option (Int×Kyc):=
 bi (Kyq s 12) fun y1=>bif y1.1 then(bi (Kyt y1.2 [wi (low - 1),wi (high+1),low,high,-1099511627776,1099511627776]) fun y4=>some (y4.1,y4.2)) else(bi (Kyv y1.2 low high) fun y7=>some (y7.1,y7.2))
def Kyx(s:Kyc):Option (Kyd×Kyc):=
 bi (Kyt s [1,1,2,2,3,4]) fun y1=>bi (bif (y1.1:Int)==1 then(bi (Kyt y1.2 [0,5,12,-3,100000000]) fun y6=>some (y6.2,(⟨y1.1,y6.1,[],(0,0,0,0)⟩:Kyd))) else(bif (y1.1:Int)==2 then(bi (Kyr y1.2 [[108,105,110,117,120],[109,97,99],[],[97,32,34,98,92],[119,105,110]]) fun y10=>some (y10.2,(⟨y1.1,0,y10.1,(0,0,0,0)⟩:Kyd))) else(bif (y1.1:Int)==3 then(bi (Kyp y1.2 2) fun y14=>some (y14.2,(⟨y1.1,y14.1,[],(0,0,0,0)⟩:Kyd))) else(bi (Kyt y1.2 [0,2,12]) fun y17=>bi (Kyt y17.2 [0,3]) fun y19=>some (y19.2,(⟨y1.1,0,[],(1,y17.1,y19.1,0)⟩:Kyd)))))) fun q3=>bi (Kyq q3.1 60) fun y21=>bi (bif y21.1 then(bi (Kyw y21.2 0 1) fun y26=>bi (Kty [119] 101) fun y28=>bi (Kyr y26.2 [[],[120],[195,169],y28]) fun y30=>some (y30.2,(⟨q3.2.Kind,y26.1,y30.1,q3.2.Version⟩:Kyd))) else(some (y21.2,q3.2))) fun q23=>some (q23.2,q23.1)
def Kyy(s:List Kye):Option (List Kye):=
 bi (apd ([]:List Kye) s) fun y1=>some y1
def Kyz(k:Nat)(s:Kyc):Option (Kye×Kyc):=
 bi (Kyt s [0,1,2,2]) fun y1=>bi (Kyu k y1.2 y1.1) fun y3=>bi (Kyq y3.2 12) fun y5=>bi (bif y5.1 then(bi (Kyp y5.2 6) fun y10=>bif (y10.1:Int)==0 then(bi (Kyr y10.2 [[],[65],[116,114,117,101],[118,49],[118],[111,115]]) fun y13=>some (y13.2,(⟨y3.1.Kind,y13.1,y3.1.Op,y3.1.Value,y3.1.Kids⟩:Kye))) else(bif (y10.1:Int)==1 then(bi (Kyr y10.2 [[],[61],[61,61],[60]]) fun y17=>some (y17.2,(⟨y3.1.Kind,y3.1.Name,y17.1,y3.1.Value,y3.1.Kids⟩:Kye))) else(bif (y10.1:Int)==2 then(bi (Kyx y10.2) fun y21=>some (y21.2,(⟨y3.1.Kind,y3.1.Name,y3.1.Op,y21.1,y3.1.Kids⟩:Kye))) else(bif (y10.1:Int)==3 then(bi (Kyw y10.2 1 4) fun y25=>some (y25.2,(⟨y25.1,y3.1.Name,y3.1.Op,y3.1.Value,y3.1.Kids⟩:Kye))) else(bif (y10.1:Int)==4 then(bi (unK d_api_Cond 11 y3.1.Kids) fun l29=>bi (Kyy l29) fun y31=>bi (Kyu k y10.2 1) fun y33=>bi (apd y31 [y33.1]) fun y35=>some (y33.2,(⟨y3.1.Kind,y3.1.Name,y3.1.Op,y3.1.Value,(pk Kyf y35)⟩:Kye))) else(bi (Kyt y10.2 [2,3,4]) fun y38=>some (y38.2,(⟨y38.1,[],[],(⟨0,0,[],(0,0,0,0)⟩:Kyd),(pk Kyf [y3.1,y3.1])⟩:Kye)))))))) else(some (y5.2,y3.1))) fun q7=>bi (Kyq q7.1 40) fun y41=>bi (bif y41.1 then(bi (Kyt y41.2 [28,29,30]) fun y46=>bi (gd (decide (y46.1≤9223372036854775807)) (rangeG (σ:=Kye) (fun i48 s49=>some (⟨2,[],[],(⟨0,0,[],(0,0,0,0)⟩:Kyd),(pk Kyf [s49])⟩:Kye)) y46.1 q7.2)) fun q51=>some (y46.2,q51)) else(some (y41.2,q7.2))) fun q43=>some (q43.2,q43.1)
def Kza(k:Nat)(s:Kyc):Option ((List Kyg)×Kyc):=
 bi (rangeF (σ:=Kyc×(List Kyg)) (fun i1 x3 s2=>bi (Kyq s2.1 4) fun y12=>bif !y12.1 then(bi (Kyu k y12.2 1) fun y15=>bi (apd s2.2 [(⟨x3,y15.1⟩:Kyg)]) fun y17=>some (y15.2,y17)) else(some (y12.2,s2.2))) 0 [[115,97,102,101],[116,117,120]] (s,([]:List Kyg))) fun q4=>bi (Kyq q4.1 20) fun y20=>bi (bif y20.1 then(bi (Kyr y20.2 [[],[116,117,120],[122,122]]) fun y25=>bi (Kyz k y25.2) fun y27=>bi (apd q4.2 [(⟨y25.1,y27.1⟩:Kyg)]) fun y29=>some (y27.2,y29)) else(some (y20.2,q4.2))) fun q22=>some (q22.2,q22.1)
def Kzb(s:Kyc)(many:Int):Option ((List Kyh)×Kyc):=
 bi (Kyp s 5) fun y1=>bi (gd (decide (many≤9223372036854775807)) (rangeG (σ:=Kyc×(List Kyh)×Int) (fun i3 s4=>bi (rangeF (σ:=Kyc×(List Kyh)) (fun i15 x17 s16=>bi (rangeF (σ:=Kyc×(List Kyh)) (fun i26 x28 s27=>bi (Kyq s27.1 4) fun y37=>bif !y37.1 then(some (y37.2,s27.2)) else(bi (bif (x28:Str)==[100,105,115,107] then(bi (Kyp y37.2 2) fun y44=>some (y44.2,(⟨s4.2.2,x17,x28,(⟨3,y44.1,[],(0,0,0,0)⟩:Kyd)⟩:Kyh))) else(bif (x28:Str)==[111,115] then(bi (Kyr y37.2 [[108,105,110,117,120],[108,105,110,117,120],[109,97,99]]) fun y48=>some (y48.2,(⟨s4.2.2,x17,x28,(⟨2,0,y48.1,(0,0,0,0)⟩:Kyd)⟩:Kyh))) else(bi (Kyt y37.2 [2,12]) fun y51=>some (y51.2,(⟨s4.2.2,x17,x28,(⟨4,0,[],(1,y51.1,0,0)⟩:Kyd)⟩:Kyh))))) fun q41=>bi (Kyq q41.1 15) fun y53=>bi (bif y53.1 then(bi (Kyx y53.2) fun y58=>some (y58.2,(⟨q41.2.At,q41.2.Node,q41.2.Name,y58.1⟩:Kyh))) else(some (y53.2,q41.2))) fun q55=>bi (apd s27.2 [q55.2]) fun y61=>some (q55.1,y61))) 0 [[100,105,115,107],[111,115],[118,101,114,115,105,111,110]] (s16.1,s16.2)) fun q29=>some (q29.1,q29.2)) 0 [[110,97],[110,98]] (s4.1,s4.2.1)) fun q18=>bi (Kyt q18.1 [1,5,20,60]) fun y63=>some (y63.2,q18.2,wi (s4.2.2+y63.1))) many (y1.2,([]:List Kyh),y1.1))) fun q6=>bi (Kyq q6.1 20) fun y65=>bi (bif y65.1 then(bi (Kyw y65.2 0 1000) fun y70=>bi (Kyr y70.2 [[],[110,97]]) fun y72=>bi (Kyr y72.2 [[111,115],[65]]) fun y74=>bi (Kyx y74.2) fun y76=>bi (apd q6.2.1 [(⟨y70.1,y72.1,y74.1,y76.1⟩:Kyh)]) fun y78=>some (y76.2,y78)) else(some (y65.2,q6.2.1))) fun q67=>some (q67.2,q67.1)
def Kzc(s:Kyc):Option (Int×Kyc):=
 bi (Kyt s [20,0,345686401]) fun y1=>bi (Kyt y1.2 [1,20,30,50,50,100,345686400,y1.1]) fun y3=>some (y3.1,y3.2)
def Kzd(s:List Str):Option (List Str):=
 bi (apd ([]:List Str) s) fun y1=>some y1
def Kze(s:Kyc):Option ((List Str)×Kyc):=
 bi (Kyt s [0,0,1,2,3]) fun y1=>bi (getZ [[[110,97],[110,98]],[[110,97]],[[110,98],[110,99]],[]] y1.1) fun x3=>bi (Kyq y1.2 20) fun y5=>bi (bif y5.1 then(bi (Kzd x3) fun y10=>bi (Kyr y5.2 [[],[110,97],[122,122]]) fun y12=>bi (apd y10 [y12.1]) fun y14=>some (y12.2,y14)) else(some (y5.2,x3))) fun q7=>some (q7.2,q7.1)
def Kzf(s:Kyc):Option (Int×Kyc):=
 bi (Kyp s 300) fun y1=>bi (Kyp y1.2 300) fun y3=>bi (Kyt y3.2 [345686399,-1,345686400]) fun y5=>bi (Kyt y5.2 [0,5,20,40,60,80,120,y1.1,y3.1,y5.1]) fun y7=>some (y7.1,y7.2)
def Kzg(k:Nat)(s:Str):Option Bool:=
 bi (loopM (σ:=Int) (ρ:=Unit ⊕ Bool) (fun s2=>bif decide ((s2:Int)<(s.length:Int)) then(bi (getZ s s2) fun c12=>bif !(((decide (((c12.toNat:Int):Int)≥97))&&(decide (((c12.toNat:Int):Int)≤122)))||((decide ((s2:Int)>0))&&((((decide (((c12.toNat:Int):Int)≥48))&&(decide (((c12.toNat:Int):Int)≤57)))||(((c12.toNat:Int):Int)==45))||(((c12.toNat:Int):Int)==95)))) then(bi (some false) fun v=>some (.out (.inr v))) else(some (.go (wi (s2+1))))) else(some (.out (.inl ())))) k 0) fun q=>orI q fun a6=>some ((!((s:Str)==[]))&&(decide (((s.length:Int):Int)≤40)))
def Kzh:Nat→Kye→Option (Int×Int)
 | 0,_=>none
 | k+1,c=>bi (bif (c.Kind:Int)==1 then(some 1) else(some 0)) fun q1=>bi (unK d_api_Cond 11 c.Kids) fun l5=>bi (rangeF (σ:=Int×Int) (fun i7 x9 s8=>bi (Kzh k x9) fun y18=>some (wi (s8.1+y18.1),(if y18.2>s8.2 then y18.2 else s8.2))) 0 l5 (q1,0)) fun q10=>some (q10.1,wi (q10.2+1))
def Kzi(n:Int)(low:Int)(high:Int):Option Bool:=
 some ((decide ((n:Int)<low))||(decide ((n:Int)>high)))
def Kzj(v_k:Kye)(x:Kye):Option Bool:=
 some ((v_k.Kind:Int)==x.Kind)
def Kzk(s:List Kye)(f:Kye):Option Int:=
 bi (rangeM (σ:=Unit) (ρ:=Int) (fun i1 x3 s2=>bi (Kzj x3 f) fun y12=>bif y12 then(bi (some (i1:Int)) fun v=>some (.out v)) else(some (.go ()))) 0 s ()) fun q=>goI q fun a6=>some (-1)
def Kzl(s:List Kye)(f:Kye):Option Bool:=
 bi (Kzk s f) fun y1=>some (decide ((y1:Int)≥0))
def Kzm(c:Kye):Option Bool:=
 bi (unK d_api_Cond 11 c.Kids) fun l1=>bi (bif (c.Kind:Int)==1 then(bi (some (((l1.length:Int):Int)==0)) fun v=>some (.inr v)) else(bif (c.Kind:Int)==2 then(bif ((l1.length:Int):Int) != 1 then(bi (some false) fun v=>some (.inr v)) else(some (.inl ()))) else(bi (bif decide (((l1.length:Int):Int)<2) then(some true) else(bi (unK d_api_Cond 11 c.Kids) fun l20=>bi (Kzl l20 c) fun y22=>some y22)) fun q16=>bif q16 then(bi (some false) fun v=>some (.inr v)) else(some (.inl ())))):Option (Unit ⊕ Bool)) fun q=>orI q fun a5=>some ((((c.Name:Str)==[])&&((c.Op:Str)==[]))&&(((c.Value.Kind:Int)==0)&&(((c.Value.Number:Int)==0)&&(((c.Value.Words:Str)==[])&&(decide (([c.Value.Version.1,c.Value.Version.2.1,c.Value.Version.2.2.1,c.Value.Version.2.2.2]:List Int)=[0,0,0,0])&&true)))))
def Kzn(c:Int):Option Bool:=
 some ((decide ((c:Int)≥48))&&(decide ((c:Int)≤57)))
def Kzo(s:Str):Option Bool:=
 bi (bif decide (((s.length:Int):Int)>1) then(bi (getZ s 0) fun c4=>some (((c4.toNat:Int):Int)==118)) else(some false)) fun q1=>bi (bif q1 then(bi (getZ s 1) fun c10=>bi (Kzn (c10.toNat:Int)) fun y12=>some y12) else(some false)) fun q7=>some q7
def Kzp(s:List Str)(v:Str):Option Int:=
 bi (rangeM (σ:=Unit) (ρ:=Int) (fun i1 x3 s2=>bif (v:Str)==x3 then(bi (some (i1:Int)) fun v=>some (.out v)) else(some (.go ()))) 0 s ()) fun q=>goI q fun a6=>some (-1)
def Kzq(s:List Str)(v:Str):Option Bool:=
 bi (Kzp s v) fun y1=>some (decide ((y1:Int)≥0))
def Kzr(op:Str):Option Bool:=
 bi (Kzq [[61,61],[33,61],[60],[60,61],[62],[62,61]] op) fun y1=>some y1
def Kzs(s:Str):Option Bool:=
 bi (gd (decide ((s.length:Int)≤9223372036854775807)) (rangeI (σ:=Unit) (ρ:=Bool) (fun i1 s2=>bi (getZ s (i1:Int)) fun c13=>bi (bif decide (((c13.toNat:Int):Int)<32) then(some true) else(bi (getZ s (i1:Int)) fun c19=>some (decide (((c19.toNat:Int):Int)>126)))) fun q15=>bif q15 then(bi (some false) fun v=>some (.out v)) else(some (.go ()))) (s.length:Int) ())) fun q=>goI q fun a6=>some (decide (((s.length:Int):Int)≤100))
def Kzt(k:Nat)(a:Kyd):Option Int:=
 bi (Kzi a.Kind 1 4) fun y1=>bif y1 then(some 4) else(bi (bif (a.Kind:Int)==1 then(bi (Kzi a.Number (-100000000) 100000000) fun y8=>some y8) else(some false)) fun q5=>bi (bif q5 then(some true) else(bi (bif (a.Kind:Int)==3 then(bi (Kzi a.Number 0 1) fun y18=>some y18) else(some false)) fun q15=>some q15)) fun q11=>bif q11 then(some 1) else(bif ((((a.Kind:Int) != 1)&&((a.Kind:Int) != 3))&&((a.Number:Int) != 0)) then(some 3) else(bi (bif (a.Kind:Int)==2 then(bi (Kzs a.Words) fun y28=>some (!y28)) else(some false)) fun q25=>bif (q25||(((a.Kind:Int) != 2)&&(!((a.Words:Str)==[])))) then(some 3) else(bi (loopM (σ:=Int) (ρ:=Unit ⊕ Int) (fun s34=>bif decide ((s34:Int)<4) then(bi (getZ ([a.Version.1,a.Version.2.1,a.Version.2.2.1,a.Version.2.2.2]:List Int) s34) fun x44=>bi (bif (a.Kind:Int)==4 then(bi (Kzi x44 0 1000000) fun y49=>some y49) else(some false)) fun q46=>bif q46 then(bi (some 1) fun v=>some (.out (.inr v))) else(bif (((a.Kind:Int) != 4)&&((x44:Int) != 0)) then(bi (some 3) fun v=>some (.out (.inr v))) else(some (.go (wi (s34+1)))))) else(some (.out (.inl ())))) k 0) fun q=>orI q fun a38=>some 0))))
def Kzu:Nat→Kye→Option Int
 | 0,_=>none
 | k+1,c=>bi (Kzi c.Kind 1 4) fun y1=>bif y1 then(some 4) else(bi (Kzm c) fun y5=>bif !y5 then(some 3) else(bi (bif (c.Kind:Int)==1 then(bi (Kzg k c.Name) fun y13=>bi (bif (((!y13)||((c.Name:Str)==[116,114,117,101]))||((c.Name:Str)==[102,97,108,115,101])) then(some true) else(bi (Kzo c.Name) fun y19=>some y19)) fun q15=>bif q15 then(bi (some 5) fun v=>some (.inr v)) else(bi (Kzr c.Op) fun y25=>bif !y25 then(bi (some 10) fun v=>some (.inr v)) else(bi (Kzt k c.Value) fun y31=>bif (y31:Int) != 0 then(bi (some y31) fun v=>some (.inr v)) else(bif ((((c.Value.Kind:Int)==3)&&(!((c.Op:Str)==[61,61])))&&(!((c.Op:Str)==[33,61]))) then(bi (some 10) fun v=>some (.inr v)) else(some (.inl ())))))) else(some (.inl ())):Option (Unit ⊕ Int)) fun q=>orI q fun a11=>bi (unK d_api_Cond 11 c.Kids) fun l42=>bi (rangeM (σ:=Unit) (ρ:=Int) (fun i44 x46 s45=>bi (Kzu k x46) fun y55=>bif (y55:Int) != 0 then(bi (some y55) fun v=>some (.out v)) else(some (.go ()))) 0 l42 ()) fun q=>goI q fun a49=>some 0))
def Kzv(k:Nat)(c:Kye):Option Int:=
 bi (Kzh k c) fun y1=>bif ((decide ((y1.1:Int)>100))||(decide ((y1.2:Int)>30))) then(some 2) else(bi (Kzu k c) fun y5=>some y5)
def Kzw(k:Nat)(l:List Kyg):Option Int:=
 bif decide (((l.length:Int):Int)>100) then(some 2) else(bi (rangeM (σ:=Unit) (ρ:=Int) (fun i3 x5 s4=>bi (Kzg k x5.Key) fun y14=>bif !y14 then(bi (some 5) fun v=>some (.out v)) else(bi (bif decide (((i3:Int):Int)>0) then(bi (getZ l (wi ((i3:Int) - 1))) fun x23=>some (Op.bytesLess x5.Key x23.Key||(x5.Key:Str)==x23.Key)) else(some false)) fun q20=>bif q20 then(bi (some 7) fun v=>some (.out v)) else(bi (Kzv k x5.Cond) fun y30=>bif (y30:Int) != 0 then(bi (some y30) fun v=>some (.out v)) else(some (.go ()))))) 0 l ()) fun q=>goI q fun a8=>some 0)
def Kzx(n:Int):Option Bool:=
 some ((decide ((n:Int)≥0))&&(decide ((n:Int)<345686400)))
def Kzy(x:Int):Option Bool:=
 some ((x:Int) != x)
def Kzz(x:Int)(y:Int):Option Int:=
 bi (Kzy x) fun y1=>bi (Kzy y) fun y3=>bif y1 then(bif y3 then(some 0) else(some (-1))) else(bif y3 then(some 1) else(bif decide ((x:Int)<y) then(some (-1)) else(bif decide ((x:Int)>y) then(some 1) else(some 0))))
def Laa(vals:List Int):Option Int:=
 bi (rangeM (σ:=Unit) (ρ:=Int) (fun i1 x3 s2=>bif (x3:Int) != 0 then(bi (some x3) fun v=>some (.out v)) else(some (.go ()))) 0 vals ()) fun q=>goI q fun a6=>some 0
def Lab(a:Kyh)(b:Kyh):Option Int:=
 bi (Kzz a.At b.At) fun y1=>bi (Kud a.Node b.Node) fun y3=>bi (Kud a.Name b.Name) fun y5=>bi (Laa [y1,y3,y5]) fun y7=>some y7
def Lac(k:Nat)(l:List Kyh):Option Int:=
 bif decide (((l.length:Int):Int)>2000) then(some 2) else(bi (rangeM (σ:=Unit) (ρ:=Int) (fun i3 x5 s4=>bi (Kzx x5.At) fun y14=>bif !y14 then(bi (some 1) fun v=>some (.out v)) else(bi (Kzg k x5.Node) fun y20=>bi (bif !y20 then(some true) else(bi (Kzg k x5.Name) fun y26=>some (!y26))) fun q22=>bif q22 then(bi (some 5) fun v=>some (.out v)) else(bi (Kzt k x5.Value) fun y32=>bif (y32:Int) != 0 then(bi (some y32) fun v=>some (.out v)) else(bi (bif decide (((i3:Int):Int)>0) then(bi (getZ l (wi ((i3:Int) - 1))) fun x41=>bi (Lab x41 x5) fun y43=>some (decide ((y43:Int)≥0))) else(some false)) fun q38=>bif q38 then(bi (some 7) fun v=>some (.out v)) else(some (.go ())))))) 0 l ()) fun q=>goI q fun a8=>some 0)
def Lad(fresh:Int):Option Int:=
 bi (Kzi fresh 1 345686400) fun y1=>bif y1 then(some 1) else(some 0)
def Lae(k:Nat)(s:Str):Option Bool:=
 bi (Kzg k s) fun y1=>some (!y1)
def Laf(k:Nat)(s:List Str):Option Int:=
 bi (rangeM (σ:=Unit) (ρ:=Int) (fun i1 x3 s2=>bi (Lae k x3) fun y12=>bif y12 then(bi (some (i1:Int)) fun v=>some (.out v)) else(some (.go ()))) 0 s ()) fun q=>goI q fun a6=>some (-1)
def Lag(k:Nat)(s:List Str):Option Bool:=
 bi (Laf k s) fun y1=>some (decide ((y1:Int)≥0))
def Lah(k:Nat)(l:List Kyh)(fresh:Int)(names:List Str):Option Int:=
 bi (Lac k l) fun y1=>bif (y1:Int) != 0 then(some y1) else(bi (Lad fresh) fun y5=>bif (y5:Int) != 0 then(some y5) else(bi (Lag k names) fun y9=>bif y9 then(some 5) else(some 0)))
def Lai(k:Nat)(l:List Str):Option Int:=
 bi (rangeM (σ:=Unit) (ρ:=Int) (fun i1 x3 s2=>bi (Kzg k x3) fun y12=>bif !y12 then(bi (some 5) fun v=>some (.out v)) else(bi (bif decide (((i1:Int):Int)>0) then(bi (getZ l (wi ((i1:Int) - 1))) fun x21=>some (Op.bytesLess x3 x21||(x3:Str)==x21)) else(some false)) fun q18=>bif q18 then(bi (some 7) fun v=>some (.out v)) else(some (.go ())))) 0 l ()) fun q=>goI q fun a6=>some 0
def Laj(v_at:Int):Option Int:=
 bi (Kzx v_at) fun y1=>bif !y1 then(some 1) else(some 0)
def Lak(k:Nat)(p:List Kyg)(l:List Kyh)(fresh:Int)(nodes:List Str)(v_at:Int):Option Int:=
 bi (Kzw k p) fun y1=>bif (y1:Int) != 0 then(some y1) else(bi (Lah k l fresh []) fun y5=>bif (y5:Int) != 0 then(some y5) else(bif decide (((nodes.length:Int):Int)>500) then(some 2) else(bi (Lai k nodes) fun y11=>bif (y11:Int) != 0 then(some y11) else(bi (Laj v_at) fun y15=>some y15))))
def Lal(l:List Kyh)(fresh:Int)(al:List Bool):Option (Kyj×(List Bool)):=
 bi (rangeF (σ:=(List Bool)×(List (Kyi×(Tl Kyh)))) (fun i1 x3 s2=>bi (appT s2.1 ((mGet s2.2 (⟨x3.Node,x3.Name⟩:Kyi)).getD ((1,[]):Tl Kyh)) [x3]) fun y16=>some (y16.2,(mSet s2.2 (⟨x3.Node,x3.Name⟩:Kyi) y16.1))) 0 l (al,([]:List (Kyi×(Tl Kyh))))) fun q4=>some ((⟨fresh,q4.2⟩:Kyj),q4.1)
def kGo(hit:Kyh→Bool)(fresh:Int)(v_at:Int):List Kyh→Kyd×Bool
 | []=>(⟨0,0,[],(0,0,0,0)⟩,false)
 | c :: r=>if hit c then(if v_at<wi (c.At+fresh) then(c.Value,true) else(⟨0,0,[],(0,0,0,0)⟩,false)) else kGo hit fresh v_at r
def Lam(v_r:Kyj)(node:Str)(name:Str)(v_at:Int):Option (Kyd×Bool):=
 gd (Nat.ble ((mGet v_r.list (⟨node,name⟩:Kyi)).getD ((1,[]):Tl Kyh)).2.length 4294967296) (some (kGo (fun c=>decide (c.At≤v_at)) v_r.fresh v_at ((mGet v_r.list (⟨node,name⟩:Kyi)).getD ((1,[]):Tl Kyh)).2.reverse))
def Lan(s1:List Int)(s2:List Int):Option Int:=
 bi (rangeM (σ:=Unit) (ρ:=Int) (fun i1 x4 s3=>bif decide (((i1:Int):Int)≥(s2.length:Int)) then(bi (some 1) fun v=>some (.out v)) else(bi (getZ s2 (i1:Int)) fun x17=>bi (Kzz x4 x17) fun y19=>bif (y19:Int) != 0 then(bi (some y19) fun v=>some (.out v)) else(some (.go ())))) 0 s1 ()) fun q=>goI q fun a7=>bif decide (((s1.length:Int):Int)<(s2.length:Int)) then(some (-1)) else(some 0)
def Lao(a:Kyd)(b:Kyd):Option Int:=
 bi (Kzz a.Number b.Number) fun y1=>bi (Kud a.Words b.Words) fun y3=>bi (Lan ([a.Version.1,a.Version.2.1,a.Version.2.2.1,a.Version.2.2.2]:List Int) ([b.Version.1,b.Version.2.1,b.Version.2.2.1,b.Version.2.2.2]:List Int)) fun y5=>bi (Laa [y1,y3,y5]) fun y7=>some y7
def Lap(op:Str)(n:Int):Option Bool:=
 bif (op:Str)==[61,61] then(some ((n:Int)==0)) else(bif (op:Str)==[33,61] then(some ((n:Int) != 0)) else(bif (op:Str)==[60] then(some (decide ((n:Int)<0))) else(bif (op:Str)==[60,61] then(some (decide ((n:Int)≤0))) else(bif (op:Str)==[62] then(some (decide ((n:Int)>0))) else(some (decide ((n:Int)≥0)))))))
def Laq(a:List Int)(b:List Int):Option Bool:=
 bi (Kzz (a.length:Int) (b.length:Int)) fun y1=>bi (Lan a b) fun y3=>bi (Laa [y1,y3]) fun y5=>some (decide ((y5:Int)<0))
def Lar(s:List Int):Option (List Int):=
 bi (apd ([]:List Int) s) fun y1=>some y1
def Las(rc_posture_Record_judge:Kyj→Kye→Str→Int→Int→Option (Kyl×Int))(v_r:Kyj)(c:Kye)(node:Str)(v_at:Int)(n:Int)(weak:Int)(strong:Int):Option (Kyl×Int):=
 bi (unK d_api_Cond 11 c.Kids) fun l1=>bi (rangeF (σ:=Int×Kyl) (fun i3 x5 s4=>bi (rc_posture_Record_judge v_r x5 node v_at s4.1) fun y14=>bif (y14.1.is:Int)==strong then(bi (bif (s4.2.is:Int) != strong then(some true) else(bi (Laq y14.1.proof s4.2.proof) fun y21=>some y21)) fun q17=>bif q17 then(some (y14.2,y14.1)) else(some (y14.2,s4.2))) else(bif (s4.2.is:Int)==strong then(some (y14.2,s4.2)) else(bif (((y14.1.is:Int)==2)||((s4.2.is:Int)==2)) then(some (y14.2,(⟨2,[]⟩:Kyl))) else(bi (Lar s4.2.proof) fun y30=>bi (apd y30 y14.1.proof) fun y32=>some (y14.2,(⟨s4.2.is,y32⟩:Kyl)))))) 0 l1 (n,(⟨weak,[]⟩:Kyl))) fun q6=>some (q6.2,q6.1)
def Lat:Nat→Kyj→Kye→Str→Int→Int→Option (Kyl×Int)
 | 0,_,_,_,_,_=>none
 | k+1,v_r,c,node,v_at,n=>bif (c.Kind:Int)==1 then(bi (Lam v_r node c.Name v_at) fun y2=>bif ((!y2.2)||((y2.1.Kind:Int) != c.Value.Kind)) then(some ((⟨2,[]⟩:Kyl),wi (n+1))) else(bi (Lao y2.1 c.Value) fun y6=>bi (Lap c.Op y6) fun y8=>bif y8 then(some ((⟨1,[n]⟩:Kyl),wi (n+1))) else(some ((⟨0,[n]⟩:Kyl),wi (n+1))))) else(bif (c.Kind:Int)==2 then(bi (unK d_api_Cond 11 c.Kids) fun l14=>bi (getZ l14 0) fun x16=>bi (Lat k v_r x16 node v_at n) fun y18=>bi (bif (y18.1.is:Int)==1 then(some 0) else(bif (y18.1.is:Int)==0 then(some 1) else(some y18.1.is))) fun q20=>some ((⟨q20,y18.1.proof⟩:Kyl),y18.2)) else(bif (c.Kind:Int)==3 then(bi (Las (Lat k) v_r c node v_at n 1 0) fun y28=>some (y28.1,y28.2)) else(bi (Las (Lat k) v_r c node v_at n 0 1) fun y31=>some (y31.1,y31.2))))
def Lau(k:Nat)(v_r:Kyj)(c:Kye)(node:Str)(v_at:Int):Option Int:=
 bi (Lat k v_r c node v_at 0) fun y1=>some y1.1.is
def Lav(k:Nat)(v_r:Kyj)(p:List Kyg)(node:Str)(v_at:Int):Option (List Str):=
 bi (rangeF (σ:=List Str) (fun i1 x3 s2=>bi (Lau k v_r x3.Cond node v_at) fun y12=>bif (y12:Int)==1 then(bi (apd s2 [x3.Key]) fun y15=>some y15) else(some s2)) 0 p ([]:List Str)) fun q4=>some q4
def Law(k:Nat)(p:List Kyg)(l:List Kyh)(fresh:Int)(nodes:List Str)(v_at:Int)(al:List Bool):Option ((List Kyk)×Int×(List Bool)):=
 bi (Lak k p l fresh nodes v_at) fun y1=>bif (y1:Int) != 0 then(some ([],y1,al)) else(bi (Lal l fresh al) fun y5=>bi (rangeF (σ:=List Kyk) (fun i7 x9 s8=>bi (Lav k y5.1 p x9 v_at) fun y18=>bi (rangeF (σ:=List Kyk) (fun i20 x22 s21=>bi (apd s21 [(⟨x9,x22⟩:Kyk)]) fun y31=>some y31) 0 y18 s8) fun q23=>some q23) 0 nodes ([]:List Kyk)) fun q10=>bif decide (((q10.length:Int):Int)>2000) then(some ([],2,y5.2)) else(some (q10,0,y5.2)))
def Lax(k:Nat)(s:List Int):Option (List Int):=
 bif decide (((s.length:Int):Int)<2) then(some s) else(bi (loopM (σ:=Int) (ρ:=Unit ⊕ (List Int)) (fun s4=>bif decide ((s4:Int)<(s.length:Int)) then(bi (getZ s s4) fun x14=>bi (getZ s (wi (s4 - 1))) fun x17=>bif (x14:Int)==x17 then(bi (subZ s s4 (s.length:Int)) fun z21=>bi (loopM (σ:=(List Int)×Int×Int) (ρ:=(List Int)×Int) (fun s24=>bif decide ((s24.2.2:Int)<(z21.length:Int)) then(bi (getZ z21 s24.2.2) fun x34=>bi (getZ s24.1 (((s4.toNat+s24.2.2.toNat):Nat):Int)) fun x36=>bi (getZ z21 (wi (s24.2.2 - 1))) fun x39=>bi (getZ s24.1 (((s4.toNat+(wi (s24.2.2 - 1)).toNat):Nat):Int)) fun x41=>bif (x36:Int) != x41 then(bi (getZ z21 s24.2.2) fun x45=>bi (getZ s24.1 (((s4.toNat+s24.2.2.toNat):Nat):Int)) fun x47=>bi (getZ s24.1 s24.2.1) fun x50=>some (.go (s24.1.set s24.2.1.toNat x47,wi (s24.2.1+1),wi (s24.2.2+1)))) else(some (.go (s24.1,s24.2.1,wi (s24.2.2+1))))) else(some (.out (s24.1,s24.2.1)))) k (s,s4,1)) fun q26=>bi (subZ q26.1 q26.2 (q26.1.length:Int)) fun z55=>bi (some (q26.1.take q26.2.toNat)) fun v=>some (.out (.inr v))) else(some (.go (wi (s4+1))))) else(some (.out (.inl ())))) k 1) fun q=>orI q fun a8=>some s)
def Laz(k:Nat)(l:List Kyh)(fresh:Int)(node:Str):Option (List Int):=
 bi (rangeF (σ:=List Int) (fun i1 x3 s2=>bif (x3.Node:Str)==node then(bi (apd s2 [x3.At,wi (x3.At+fresh)]) fun y13=>some y13) else(some s2)) 0 l ([]:List Int)) fun q4=>bi (Kuh q4) fun y16=>gd (decide (y16.length=q4.length)) (bi (Lax k y16) fun y20=>some y20)
def Lba(s1:List Str)(s2:List Str):Option Bool:=
 bif ((s1.length:Int):Int) != (s2.length:Int) then(some false) else(bi (rangeM (σ:=Unit) (ρ:=Bool) (fun i3 x5 s4=>bi (getZ s2 (i3:Int)) fun x14=>bif !((x5:Str)==x14) then(bi (some false) fun v=>some (.out v)) else(some (.go ()))) 0 s1 ()) fun q=>goI q fun a8=>some true)
def Lbb(k:Nat)(p:List Kyg)(l:List Kyh)(fresh:Int)(nodes:List Str)(v_at:Int)(al:List Bool):Option (Int×Bool×Int×(List Bool)):=
 bi (Lak k p l fresh nodes v_at) fun y1=>bif (y1:Int) != 0 then(some (0,false,y1,al)) else(bi (Lal l fresh al) fun y5=>bi (rangeF (σ:=Int×Bool) (fun i7 x9 s8=>bi (Laz k l fresh x9) fun y18=>bi (rangeF (σ:=Int×Bool) (fun i20 x22 s21=>bi (bif ((decide ((x22:Int)>v_at))&&(decide ((x22:Int)<s21.1))) then(bi (Lav k y5.1 p x9 x22) fun y34=>bi (Lav k y5.1 p x9 (wi (x22 - 1))) fun y36=>bi (Lba y34 y36) fun y38=>some (!y38)) else(some false)) fun q31=>bif q31 then(some (x22,true)) else(some (s21.1,s21.2))) 0 y18 (s8.1,s8.2)) fun q23=>some (q23.1,q23.2)) 0 nodes (345686400,false)) fun q10=>bif !q10.2 then(some (0,false,0,y5.2)) else(some (q10.1,true,0,y5.2)))
def Lbc(n:Int)(low:Int)(high:Int):Option Bool:=
 some ((decide ((low:Int)≤n))&&(decide ((n:Int)≤high)))
def Lbd(s:Str)(v_some:Str):Option Bool:=
 bi (Ktw s v_some) fun y1=>some ((y1:Str)==[])
def Lbe(s:Str):Option Bool:=
 bi (Lbc (s.length:Int) 1 40) fun y1=>bi (bif y1 then(bi (subZ s 0 1) fun z6=>bi (Lbd z6 [97,98,99,100,101,102,103,104,105,106,107,108,109,110,111,112,113,114,115,116,117,118,119,120,121,122]) fun y8=>some y8) else(some false)) fun q3=>bi (bif q3 then(bi (Lbd s [97,98,99,100,101,102,103,104,105,106,107,108,109,110,111,112,113,114,115,116,117,118,119,120,121,122,48,49,50,51,52,53,54,55,56,57,45,95]) fun y14=>some y14) else(some false)) fun q11=>some q11
def Lbf:Nat→Kye→Option Int
 | 0,_=>none
 | k+1,c=>bi (bif (c.Kind:Int)==1 then(some 1) else(some 0)) fun q1=>bi (unK d_api_Cond 11 c.Kids) fun l5=>bi (rangeF (σ:=Int) (fun i7 x9 s8=>bi (Lbf k x9) fun y18=>some (wi (s8+y18))) 0 l5 q1) fun q10=>some q10
def Lbg:Nat→Kye→Option Int
 | 0,_=>none
 | k+1,c=>bi (unK d_api_Cond 11 c.Kids) fun l1=>bi (rangeF (σ:=Int) (fun i3 x5 s4=>bi (Lbg k x5) fun y14=>some (if y14>s4 then y14 else s4)) 0 l1 0) fun q6=>some (wi (q6+1))
def Lbh(n:Int)(low:Int)(high:Int):Option Bool:=
 some ((decide ((low:Int)≤n))&&(decide ((n:Int)≤high)))
def Lbi(v_k:Kye)(x:Kye):Option Bool:=
 some ((v_k.Kind:Int)==x.Kind)
def Lbj(s:List Kye)(f:Kye):Option Int:=
 bi (rangeM (σ:=Unit) (ρ:=Int) (fun i1 x3 s2=>bi (Lbi x3 f) fun y12=>bif y12 then(bi (some (i1:Int)) fun v=>some (.out v)) else(some (.go ()))) 0 s ()) fun q=>goI q fun a6=>some (-1)
def Lbk(s:List Kye)(f:Kye):Option Bool:=
 bi (Lbj s f) fun y1=>some (decide ((y1:Int)≥0))
def Lbl(s:Str):Option Bool:=
 bi (Lbe s) fun y1=>bi (bif ((y1&&(!((s:Str)==[116,114,117,101])))&&(!((s:Str)==[102,97,108,115,101]))) then(bi (getZ s 0) fun c6=>bi (bif ((((c6.toNat:Int):Int)==118)&&(decide (((s.length:Int):Int)>1))) then(bi (getZ s 1) fun c11=>some (decide (((c11.toNat:Int):Int)≥48))) else(some false)) fun q8=>bi (bif q8 then(bi (getZ s 1) fun c17=>some (decide (((c17.toNat:Int):Int)≤57))) else(some false)) fun q14=>some (!q14)) else(some false)) fun q3=>some q3
def Lbm(k:Nat)(a:Kyd):Option Int:=
 bi (Lbh a.Kind 1 4) fun y1=>bif !y1 then(some 4) else(bi (bif (a.Kind:Int)==1 then(bi (Lbh a.Number (-100000000) 100000000) fun y8=>some (!y8)) else(some false)) fun q5=>bi (bif q5 then(some true) else(bi (bif (a.Kind:Int)==3 then(bi (Lbh a.Number 0 1) fun y18=>some (!y18)) else(some false)) fun q15=>some q15)) fun q11=>bif q11 then(some 1) else(bif ((((a.Kind:Int) != 1)&&((a.Kind:Int) != 3))&&((a.Number:Int) != 0)) then(some 3) else(bif ((((a.Kind:Int) != 2)&&(!((a.Words:Str)==[])))||(decide (((a.Words.length:Int):Int)>100))) then(some 3) else(bi (gd (decide ((a.Words.length:Int)≤9223372036854775807)) (rangeI (σ:=Unit) (ρ:=Int) (fun i27 s28=>bi (getZ a.Words (i27:Int)) fun c39=>bi (Lbh (wi ((c39.toNat:Int))) 32 126) fun y41=>bif !y41 then(bi (some 3) fun v=>some (.out v)) else(some (.go ()))) (a.Words.length:Int) ())) fun q=>goI q fun a32=>bi (loopM (σ:=Int) (ρ:=Unit ⊕ Int) (fun s48=>bif decide ((s48:Int)<4) then(bi (getZ ([a.Version.1,a.Version.2.1,a.Version.2.2.1,a.Version.2.2.2]:List Int) s48) fun x58=>bi (bif (a.Kind:Int)==4 then(bi (Lbh x58 0 1000000) fun y63=>some (!y63)) else(some false)) fun q60=>bif q60 then(bi (some 1) fun v=>some (.out (.inr v))) else(some (.go (wi (s48+1))))) else(some (.out (.inl ())))) k 0) fun q=>orI q fun a52=>bif (((a.Kind:Int) != 4)&&(!decide (([a.Version.1,a.Version.2.1,a.Version.2.2.1,a.Version.2.2.2]:List Int)=([0,0,0,0]:List Int)))) then(some 3) else(some 0)))))
def Lbn(k:Nat)(c:Kye):Option Int:=
 bi (Lbh c.Kind 1 4) fun y1=>bif !y1 then(some 4) else(bi (bif (c.Kind:Int)==1 then(bi (unK d_api_Cond 11 c.Kids) fun l8=>some (decide (((l8.length:Int):Int)>0))) else(some false)) fun q5=>bi (bif q5 then(some true) else(bi (bif (c.Kind:Int)==2 then(bi (unK d_api_Cond 11 c.Kids) fun l18=>some (((l18.length:Int):Int) != 1)) else(some false)) fun q15=>some q15)) fun q11=>bi (bif q11 then(some true) else(bi (bif ((!((c.Kind:Int)==1))&&((c.Kind:Int) != 2)) then(bi (unK d_api_Cond 11 c.Kids) fun l28=>some (decide (((l28.length:Int):Int)<2))) else(some false)) fun q25=>some q25)) fun q21=>bif q21 then(some 3) else(bif ((!((c.Kind:Int)==1))&&(((!((c.Name:Str)==[]))||(!((c.Op:Str)==[])))||(!(((c.Value.Kind:Int)==0)&&(((c.Value.Number:Int)==0)&&(((c.Value.Words:Str)==[])&&(decide (([c.Value.Version.1,c.Value.Version.2.1,c.Value.Version.2.2.1,c.Value.Version.2.2.2]:List Int)=[0,0,0,0])&&true))))))) then(some 3) else(bi (bif (((c.Kind:Int)==3)||((c.Kind:Int)==4)) then(bi (unK d_api_Cond 11 c.Kids) fun l38=>bi (Lbk l38 c) fun y40=>some y40) else(some false)) fun q35=>bif q35 then(some 3) else(bif !((c.Kind:Int)==1) then(some 0) else(bi (Lbl c.Name) fun y47=>bif !y47 then(some 5) else(bi Kys fun y51=>bi (Kzq y51 c.Op) fun y53=>bif !y53 then(some 10) else(bi (Lbm k c.Value) fun y57=>bif (y57:Int) != 0 then(some y57) else(bif ((((c.Value.Kind:Int)==3)&&(!((c.Op:Str)==[61,61])))&&(!((c.Op:Str)==[33,61]))) then(some 10) else(some 0)))))))))
def Lbo:Nat→Kye→Option Int
 | 0,_=>none
 | k+1,c=>bi (Lbn k c) fun y1=>bif (y1:Int) != 0 then(some y1) else(bi (unK d_api_Cond 11 c.Kids) fun l5=>bi (rangeM (σ:=Unit) (ρ:=Int) (fun i7 x9 s8=>bi (Lbo k x9) fun y18=>bif (y18:Int) != 0 then(bi (some y18) fun v=>some (.out v)) else(some (.go ()))) 0 l5 ()) fun q=>goI q fun a12=>some 0)
def Lbp(k:Nat)(c:Kye):Option Int:=
 bi (Lbf k c) fun y1=>bi (bif decide ((y1:Int)>100) then(some true) else(bi (Lbg k c) fun y7=>some (decide ((y7:Int)>30)))) fun q3=>bif q3 then(some 2) else(bi (Lbo k c) fun y11=>some y11)
def Lbq(k:Nat)(p:List Kyg):Option Int:=
 bif decide (((p.length:Int):Int)>100) then(some 2) else(bi (rangeM (σ:=Unit) (ρ:=Int) (fun i3 x5 s4=>bi (Lbe x5.Key) fun y14=>bif !y14 then(bi (some 5) fun v=>some (.out v)) else(bi (bif decide (((i3:Int):Int)>0) then(bi (getZ p (wi ((i3:Int) - 1))) fun x23=>some (Op.bytesLess x5.Key x23.Key||(x5.Key:Str)==x23.Key)) else(some false)) fun q20=>bif q20 then(bi (some 7) fun v=>some (.out v)) else(bi (Lbp k x5.Cond) fun y30=>bif (y30:Int) != 0 then(bi (some y30) fun v=>some (.out v)) else(some (.go ()))))) 0 p ()) fun q=>goI q fun a8=>some 0)
def Lbr(v_at:Int):Option Bool:=
 bi (Lbc v_at 0 345686399) fun y1=>some y1
def Lbs(a:Kyh)(b:Kyh):Option Int:=
 bi (Kzz a.At b.At) fun y1=>bi (Kud a.Node b.Node) fun y3=>bi (Kud a.Name b.Name) fun y5=>bi (Laa [y1,y3,y5]) fun y7=>some y7
def Lbt(k:Nat)(l:List Kyh):Option Int:=
 bif decide (((l.length:Int):Int)>2000) then(some 2) else(bi (rangeM (σ:=Unit) (ρ:=Int) (fun i3 x5 s4=>bi (Lbr x5.At) fun y14=>bif !y14 then(bi (some 1) fun v=>some (.out v)) else(bi (Lbe x5.Node) fun y20=>bi (bif !y20 then(some true) else(bi (Lbe x5.Name) fun y26=>some (!y26))) fun q22=>bif q22 then(bi (some 5) fun v=>some (.out v)) else(bi (Lbm k x5.Value) fun y32=>bif (y32:Int) != 0 then(bi (some y32) fun v=>some (.out v)) else(bi (bif decide (((i3:Int):Int)>0) then(bi (getZ l (wi ((i3:Int) - 1))) fun x41=>bi (Lbs x41 x5) fun y43=>some (decide ((y43:Int)≥0))) else(some false)) fun q38=>bif q38 then(bi (some 7) fun v=>some (.out v)) else(some (.go ())))))) 0 l ()) fun q=>goI q fun a8=>some 0)
def Lbu(fresh:Int):Option Int:=
 bi (Lbh fresh 1 345686400) fun y1=>bif !y1 then(some 1) else(some 0)
def Lbv(l:List Str):Option Int:=
 bi (rangeM (σ:=Unit) (ρ:=Int) (fun i1 x3 s2=>bi (Lbe x3) fun y12=>bif !y12 then(bi (some 5) fun v=>some (.out v)) else(bi (bif decide (((i1:Int):Int)>0) then(bi (getZ l (wi ((i1:Int) - 1))) fun x21=>some (Op.bytesLess x3 x21||(x3:Str)==x21)) else(some false)) fun q18=>bif q18 then(bi (some 7) fun v=>some (.out v)) else(some (.go ())))) 0 l ()) fun q=>goI q fun a6=>some 0
def Lbw(l:List Str):Option Int:=
 bif decide (((l.length:Int):Int)>500) then(some 2) else(bi (Lbv l) fun y3=>some y3)
def Lbx(v_at:Int):Option Int:=
 bi (Lbr v_at) fun y1=>bif !y1 then(some 1) else(some 0)
def Lby(vals:List Int):Option Int:=
 bi (rangeM (σ:=Unit) (ρ:=Int) (fun i1 x3 s2=>bif (x3:Int) != 0 then(bi (some x3) fun v=>some (.out v)) else(some (.go ()))) 0 vals ()) fun q=>goI q fun a6=>some 0
def Lbz(k:Nat)(s:Str)(v_at:Int):Option Int:=
 bi (loopM (σ:=Int) (ρ:=Int) (fun s2=>bi (bif decide ((s2:Int)<(s.length:Int)) then(bi (getZ s s2) fun c14=>bi (Kzn (c14.toNat:Int)) fun y16=>some y16) else(some false)) fun q11=>bif q11 then(some (.go (wi (s2+1)))) else(some (.out s2))) k v_at) fun q4=>some q4
def Lca(k:Nat)(s:Str)(most:Int):Option (Int×Bool):=
 bi (Ktt s [45]) fun y1=>bi (bif (((y1:Str)==[])||(decide (((y1.length:Int):Int)>most))) then(some true) else(bi (getZ y1 0) fun c7=>some ((((c7.toNat:Int):Int)==48)&&(!((s:Str)==[48]))))) fun q3=>bif q3 then(some (0,false)) else(bi (loopM (σ:=Int) (ρ:=Unit ⊕ (Int×Bool)) (fun s12=>bif decide ((s12:Int)<(y1.length:Int)) then(bi (getZ y1 s12) fun c22=>bi (bif decide (((c22.toNat:Int):Int)<48) then(some true) else(bi (getZ y1 s12) fun c28=>some (decide (((c28.toNat:Int):Int)>57)))) fun q24=>bif q24 then(bi (some (0,false)) fun v=>some (.out (.inr v))) else(some (.go (wi (s12+1))))) else(some (.out (.inl ())))) k 0) fun q=>orI q fun a16=>bi (Kue s) fun y35=>some (y35,true))
def Lcb(k:Nat)(s:Str):Option (Int×Bool):=
 bi (Lca k s 9) fun y1=>some (y1.1,y1.2)
def Lcc(k:Nat)(t:Kym)(s:Str):Option Kym:=
 bi (getZ s t.v_at) fun c1=>bi (bif ((c1.toNat:Int):Int)==45 then(some (wi (t.v_at+1))) else(some t.v_at)) fun q3=>bi (Lbz k s q3) fun y7=>bi (subZ s t.v_at y7) fun z9=>bi (Lcb k z9) fun y11=>bif y11.2 then(some (⟨[118,97,108,117,101],t.v_at,y7,t.name,(⟨1,y11.1,[],(0,0,0,0)⟩:Kyd)⟩:Kym)) else(some (⟨t.kind,t.v_at,y7,t.name,t.value⟩:Kym))
def Lcd(k:Nat)(t:Kym)(s:Str):Option Kym:=
 bi (loopM (σ:=(List Int)×Int) (ρ:=(List Int) ⊕ Kym) (fun s2=>bif decide ((s2.2:Int)<(s.length:Int)) then(bi (getZ s s2.2) fun c12=>bi (bif ((c12.toNat:Int):Int)==34 then(bi (strB s2.1) fun y18=>bi (bi (some (⟨[118,97,108,117,101],t.v_at,wi (s2.2+1),t.name,(⟨2,0,y18,(0,0,0,0)⟩:Kyd)⟩:Kym)) fun v=>some (.out (.inr v))) fun v=>some (.inr v)) else(bif ((decide (((c12.toNat:Int):Int)<32))||(decide (((c12.toNat:Int):Int)>126))) then(bi (bi (some t) fun v=>some (.out (.inr v))) fun v=>some (.inr v)) else(bif ((c12.toNat:Int):Int)==92 then(bi (bif (wi (s2.2+1):Int)==(s.length:Int) then(some true) else(bi (getZ s (wi (s2.2+1))) fun c36=>bi (bif ((c36.toNat:Int):Int) != 34 then(bi (getZ s (wi (s2.2+1))) fun c41=>some (((c41.toNat:Int):Int) != 92)) else(some false)) fun q38=>some q38)) fun q32=>bif q32 then(bi (bi (some t) fun v=>some (.out (.inr v))) fun v=>some (.inr v)) else(bi (getZ s (wi (s2.2+1))) fun c50=>some (.inl (wi (s2.2+1),(c50.toNat:Int))))) else(some (.inl (s2.2,(c12.toNat:Int)))))):Option ((Int×Int) ⊕ (LS ((List Int)×Int) ((List Int) ⊕ Kym)))) fun q=>orI q fun a16=>bi (apd s2.1 [a16.2]) fun y53=>some (.go (y53,wi (a16.1+1)))) else(some (.out (.inl s2.1)))) k (([]:List Int),wi (t.v_at+1))) fun q=>orI q fun a6=>some t
def Lce(k:Nat)(l:List Str):Option ((List Int)×Bool):=
 bi (rangeM (σ:=List Int) (ρ:=(List Int)×Bool) (fun i1 x3 s2=>bi (Lcb k x3) fun y12=>bif !y12.2 then(bi (some ([],false)) fun v=>some (.out v)) else(bi (apd s2 [y12.1]) fun y18=>some (.go y18))) 0 l ([]:List Int)) fun q=>goI q fun a6=>some (a6,true)
def Lcf(k:Nat)(t:Kym)(s:Str):Option Kym:=
 bi (loopM (σ:=Int) (ρ:=Int) (fun s2=>bi (bif decide ((s2:Int)<(s.length:Int)) then(bi (getZ s s2) fun c14=>bi (Kzn (c14.toNat:Int)) fun y16=>bi (bif y16 then(some true) else(bi (getZ s s2) fun c22=>some (((c22.toNat:Int):Int)==46))) fun q18=>some q18) else(some false)) fun q11=>bif q11 then(some (.go (wi (s2+1)))) else(some (.out s2))) k (wi (t.v_at+1))) fun q4=>bi (subZ s (wi (t.v_at+1)) q4) fun z27=>bi (Ktx z27 [46]) fun y29=>bi (Lce k y29) fun y31=>bif ((!y31.2)||(decide (((y29.length:Int):Int)>4))) then(some (⟨t.kind,t.v_at,q4,t.name,t.value⟩:Kym)) else(some (⟨[118,97,108,117,101],t.v_at,q4,t.name,(⟨4,0,[],(cpA (0:Int).toNat y31.1 0 0,cpA (0:Int).toNat y31.1 1 0,cpA (0:Int).toNat y31.1 2 0,cpA (0:Int).toNat y31.1 3 0)⟩:Kyd)⟩:Kym))
def Lcg(c:Int):Option Bool:=
 bi (bif ((decide ((c:Int)≥97))&&(decide ((c:Int)≤122))) then(some true) else(bi (Kzn c) fun y5=>some y5)) fun q1=>some ((q1||((c:Int)==45))||((c:Int)==95))
def Lch(k:Nat)(t:Kym)(s:Str):Option Kym:=
 bi (loopM (σ:=Int) (ρ:=Int) (fun s2=>bi (bif decide ((s2:Int)<(s.length:Int)) then(bi (getZ s s2) fun c14=>bi (Lcg (c14.toNat:Int)) fun y16=>some y16) else(some false)) fun q11=>bif q11 then(some (.go (wi (s2+1)))) else(some (.out s2))) k t.v_at) fun q4=>bi (subZ s t.v_at q4) fun z21=>bif (((z21:Str)==[116,114,117,101])||((z21:Str)==[102,97,108,115,101])) then(bif (z21:Str)==[116,114,117,101] then(some (⟨[118,97,108,117,101],t.v_at,q4,z21,(⟨3,1,[],(0,0,0,0)⟩:Kyd)⟩:Kym)) else(some (⟨[118,97,108,117,101],t.v_at,q4,z21,(⟨3,0,[],(0,0,0,0)⟩:Kyd)⟩:Kym))) else(some (⟨[110,97,109,101],t.v_at,q4,z21,t.value⟩:Kym))
def Lci(k:Nat)(s:Str)(v_at:Int):Option Kym:=
 bif (v_at:Int)==(s.length:Int) then(some (⟨[101,110,100],v_at,0,[],(⟨0,0,[],(0,0,0,0)⟩:Kyd)⟩:Kym)) else(bi (rangeM (σ:=Unit) (ρ:=Kym) (fun i3 x5 s4=>bi (subZ s v_at (s.length:Int)) fun z14=>bi (Kts z14 x5) fun y16=>bif y16 then(bi (some (⟨x5,v_at,wi (v_at+(x5.length:Int)),[],(⟨0,0,[],(0,0,0,0)⟩:Kyd)⟩:Kym)) fun v=>some (.out v)) else(some (.go ()))) 0 [[61,61],[33,61],[60,61],[62,61],[38,38],[124,124],[60],[62],[33],[40],[41]] ()) fun q=>goI q fun a8=>bi (getZ s v_at) fun c22=>bi (bi (Kzn (c22.toNat:Int)) fun y26=>bi (bif y26 then(some true) else(bi (bif ((((c22.toNat:Int):Int)==45)&&(decide ((wi (v_at+1):Int)<(s.length:Int)))) then(bi (getZ s (wi (v_at+1))) fun c35=>bi (Kzn (c35.toNat:Int)) fun y37=>some y37) else(some false)) fun q32=>some q32)) fun q28=>bif q28 then(bi (Lcc k (⟨[98,97,100],v_at,0,[],(⟨0,0,[],(0,0,0,0)⟩:Kyd)⟩:Kym) s) fun y41=>some y41) else(bif ((c22.toNat:Int):Int)==34 then(bi (Lcd k (⟨[98,97,100],v_at,0,[],(⟨0,0,[],(0,0,0,0)⟩:Kyd)⟩:Kym) s) fun y45=>some y45) else(bi (subZ s v_at (s.length:Int)) fun z48=>bi (Kzo z48) fun y50=>bif y50 then(bi (Lcf k (⟨[98,97,100],v_at,0,[],(⟨0,0,[],(0,0,0,0)⟩:Kyd)⟩:Kym) s) fun y53=>some y53) else(bif ((decide (((c22.toNat:Int):Int)≥97))&&(decide (((c22.toNat:Int):Int)≤122))) then(bi (Lch k (⟨[98,97,100],v_at,0,[],(⟨0,0,[],(0,0,0,0)⟩:Kyd)⟩:Kym) s) fun y57=>some y57) else(some (⟨[98,97,100],v_at,0,[],(⟨0,0,[],(0,0,0,0)⟩:Kyd)⟩:Kym)))))) fun q24=>some q24)
def Lcj(k:Nat)(p:Kyn):Option Kyn:=
 bi (loopM (σ:=Int) (ρ:=Int) (fun s2=>bi (bif decide ((s2:Int)<(p.s.length:Int)) then(bi (getZ p.s s2) fun c14=>bi (bif ((c14.toNat:Int):Int)==32 then(some true) else(bi (getZ p.s s2) fun c20=>some (((c20.toNat:Int):Int)==10))) fun q16=>some q16) else(some false)) fun q11=>bif q11 then(some (.go (wi (s2+1)))) else(some (.out s2))) k p.tok.v_end) fun q4=>bi (Lci k p.s q4) fun y25=>some (⟨p.s,y25,p.bad,p.v_at⟩:Kyn)
def Lck(p:Kyn):Option (Kye×Kyn):=
 bi (bif !p.bad then(some (⟨p.s,p.tok,true,p.tok.v_at⟩:Kyn)) else(some p)) fun q1=>some ((⟨0,[],[],(⟨0,0,[],(0,0,0,0)⟩:Kyd),(KD.mk 0 [])⟩:Kye),q1)
def Lcl(k:Nat)(p:Kyn):Option (Kye×Kyn):=
 bi (Lcj k p) fun y1=>bi (Kzr y1.tok.kind) fun y3=>bif !y3 then(some ((⟨1,p.tok.name,[61,61],(⟨3,1,[],(0,0,0,0)⟩:Kyd),(KD.mk 0 [])⟩:Kye),y1)) else(bi (Lcj k y1) fun y7=>bif !((y7.tok.kind:Str)==[118,97,108,117,101]) then(bi (Lck y7) fun y10=>some (y10.1,y10.2)) else(bi (Lcj k y7) fun y13=>some ((⟨1,p.tok.name,y1.tok.kind,y7.tok.value,(KD.mk 0 [])⟩:Kye),y13)))
def Lcm(rc_posture_parser_cond:Kyn→Option (Kye×Kyn)):Nat→Kyn→Option (Kye×Kyn)
 | 0,_=>none
 | k+1,p=>bif (p.tok.kind:Str)==[33] then(bi (Lcj k p) fun y2=>bi (Lcm rc_posture_parser_cond k y2) fun y4=>some ((⟨2,[],[],(⟨0,0,[],(0,0,0,0)⟩:Kyd),(pk Kyf [y4.1])⟩:Kye),y4.2)) else(bif (p.tok.kind:Str)==[40] then(bi (Lcj k p) fun y8=>bi (rc_posture_parser_cond y8) fun y10=>bif y10.2.bad then(some (y10.1,y10.2)) else(bif !((y10.2.tok.kind:Str)==[41]) then(bi (Lck y10.2) fun y15=>some (y15.1,y15.2)) else(bi (Lcj k y10.2) fun y18=>some (y10.1,y18)))) else(bif (p.tok.kind:Str)==[110,97,109,101] then(bi (Lcl k p) fun y22=>some (y22.1,y22.2)) else(bi (Lck p) fun y25=>some (y25.1,y25.2))))
def Lcn(kind:Int)(l:List Kye):Option Kye:=
 bif ((l.length:Int):Int)==1 then(bi (getZ l 0) fun x2=>some x2) else(bi (rangeF (σ:=List Kye) (fun i5 x7 s6=>bif (x7.Kind:Int)==kind then(bi (unK d_api_Cond 11 x7.Kids) fun l17=>bi (apd s6 l17) fun y19=>some y19) else(bi (apd s6 [x7]) fun y22=>some y22)) 0 l ([]:List Kye)) fun q8=>some (⟨kind,[],[],(⟨0,0,[],(0,0,0,0)⟩:Kyd),(pk Kyf q8)⟩:Kye))
def Lco(rc_posture_parser_cond:Kyn→Option (Kye×Kyn))(k:Nat)(p:Kyn):Option (Kye×Kyn):=
 bi (Lcm rc_posture_parser_cond k p) fun y1=>bi (loopM (σ:=Kyn×(List Kye)) (ρ:=Kyn×(List Kye)) (fun s4=>bif ((!s4.1.bad)&&((s4.1.tok.kind:Str)==[38,38])) then(bi (Lcj k s4.1) fun y14=>bi (Lcm rc_posture_parser_cond k y14) fun y16=>bi (apd s4.2 [y16.1]) fun y18=>some (.go (y16.2,y18))) else(some (.out (s4.1,s4.2)))) k (y1.2,[y1.1])) fun q6=>bi (Lcn 3 q6.2) fun y21=>some (y21,q6.1)
def Lcp:Nat→Kyn→Option (Kye×Kyn)
 | 0,_=>none
 | k+1,p=>bi (Lco (Lcp k) k p) fun y1=>bi (loopM (σ:=Kyn×(List Kye)) (ρ:=Kyn×(List Kye)) (fun s4=>bif ((!s4.1.bad)&&((s4.1.tok.kind:Str)==[124,124])) then(bi (Lcj k s4.1) fun y14=>bi (Lco (Lcp k) k y14) fun y16=>bi (apd s4.2 [y16.1]) fun y18=>some (.go (y16.2,y18))) else(some (.out (s4.1,s4.2)))) k (y1.2,[y1.1])) fun q6=>bi (Lcn 4 q6.2) fun y21=>some (y21,q6.1)
def Lcq(k:Nat)(text:Str):Option (Kye×Int×Int):=
 bif decide (((text.length:Int):Int)>5000) then(some ((⟨0,[],[],(⟨0,0,[],(0,0,0,0)⟩:Kyd),(KD.mk 0 [])⟩:Kye),0,2)) else(bi (Lcj k (⟨text,(⟨[],0,0,[],(⟨0,0,[],(0,0,0,0)⟩:Kyd)⟩:Kym),false,0⟩:Kyn)) fun y3=>bi (Lcp k y3) fun y5=>bi (bif ((!y5.2.bad)&&(!((y5.2.tok.kind:Str)==[101,110,100]))) then(bi (Lck y5.2) fun y10=>some y10.2) else(some y5.2)) fun q7=>bif q7.bad then(some ((⟨0,[],[],(⟨0,0,[],(0,0,0,0)⟩:Kyd),(KD.mk 0 [])⟩:Kye),q7.v_at,9)) else(bi (Kzv k y5.1) fun y15=>bif (y15:Int) != 0 then(some ((⟨0,[],[],(⟨0,0,[],(0,0,0,0)⟩:Kyd),(KD.mk 0 [])⟩:Kye),0,y15)) else(some (y5.1,0,0))))
def Lcr(k:Nat):Option Bool:=
 bi (Lcq k [97]) fun y1=>some ((((y1.2.2:Int)==0)&&((y1.1.Kind:Int)==1))&&((y1.1.Name:Str)==[97]))
def Lcs(k:Nat)(l:List Kyh)(fresh:Int):Option (List Int):=
 bi (rangeF (σ:=List Int) (fun i1 x3 s2=>bi (apd s2 [x3.At,(if 345686400<(wi (x3.At+fresh)) then 345686400 else wi (x3.At+fresh))]) fun y12=>some y12) 0 l [0,345686400]) fun q4=>bi (Kuh q4) fun y14=>gd (decide (y14.length=q4.length)) (bi (Lax k y14) fun y18=>some y18)
def Lct:Nat→Kye→Option (List Kye)
 | 0,_=>none
 | k+1,c=>bif (c.Kind:Int)==1 then(some [c]) else(bi (unK d_api_Cond 11 c.Kids) fun l3=>bi (rangeF (σ:=List Kye) (fun i5 x7 s6=>bi (Lct k x7) fun y16=>bi (apd s6 y16) fun y18=>some y18) 0 l3 ([]:List Kye)) fun q8=>some q8)
def kHit(node:Str)(name:Str)(v_at:Int)(c:Kyh):Bool:=(c.Node==node)&&((c.Name==name)&&decide (c.At≤v_at))
def Lcu(l:List Kyh)(fresh:Int)(node:Str)(name:Str)(v_at:Int):Option (Kyd×Bool):=
 gd (Nat.ble l.length 4294967296) (some (kGo (kHit node name v_at) fresh v_at l.reverse))
def Lcv(a:Kyd)(b:Kyd):Option (Int×Bool):=
 bif (a.Kind:Int) != b.Kind then(some (0,false)) else(bi (Kzz a.Number b.Number) fun y3=>bi (Kud a.Words b.Words) fun y5=>bi (Lan ([a.Version.1,a.Version.2.1,a.Version.2.2.1,a.Version.2.2.2]:List Int) ([b.Version.1,b.Version.2.1,b.Version.2.2.1,b.Version.2.2.2]:List Int)) fun y7=>bi (Laa [y3,y5,y7]) fun y9=>some (y9,true))
def Lcw(c:Kye)(l:List Kyh)(fresh:Int)(node:Str)(v_at:Int):Option Int:=
 bi (Lcu l fresh node c.Name v_at) fun y1=>bi (Lcv y1.1 c.Value) fun y3=>bif ((!y1.2)||(!y3.2)) then(some 2) else(bif ((mGet (mSet (mSet (mSet (mSet (mSet (mSet ([]:List (Str×Bool)) [61,61] ((y3.1:Int)==0)) [33,61] ((y3.1:Int) != 0)) [60] (decide ((y3.1:Int)<0))) [60,61] (decide ((y3.1:Int)≤0))) [62] (decide ((y3.1:Int)>0))) [62,61] (decide ((y3.1:Int)≥0))) c.Op).getD false) then(some 1) else(some 0))
def Lcx(k:Nat)(c:Kye)(l:List Kyh)(fresh:Int)(node:Str)(v_at:Int):Option (List Int):=
 bi (Lct k c) fun y1=>bi (rangeF (σ:=List Int) (fun i3 x5 s4=>bi (Lcw x5 l fresh node v_at) fun y14=>bi (apd s4 [y14]) fun y16=>some y16) 0 y1 ([]:List Int)) fun q6=>some q6
def Lcy(s:List Int)(v:Int):Option Int:=
 bi (rangeM (σ:=Unit) (ρ:=Int) (fun i1 x3 s2=>bif (v:Int)==x3 then(bi (some (i1:Int)) fun v=>some (.out v)) else(some (.go ()))) 0 s ()) fun q=>goI q fun a6=>some (-1)
def Lcz(s:List Int)(v:Int):Option Bool:=
 bi (Lcy s v) fun y1=>some (decide ((y1:Int)≥0))
def Lda:Nat→Kye→(List Int)→Int→Option Int
 | 0,_,_,_=>none
 | k+1,c,known,n=>bif (c.Kind:Int)==1 then(bi (getZ known n) fun x2=>some x2) else(bi (unK d_api_Cond 11 c.Kids) fun l5=>bi (rangeF (σ:=(List Int)×Int) (fun i7 x9 s8=>bi (Lda k x9 known s8.2) fun y18=>bi (apd s8.1 [y18]) fun y20=>bi (Lbf k x9) fun y22=>some (y20,wi (s8.2+y22))) 0 l5 (([]:List Int),n)) fun q10=>bi (bif (c.Kind:Int)==2 then(bi (getZ q10.1 0) fun x28=>bi (getZ [1,0,2] x28) fun x31=>bi (some x31) fun v=>some (.inr v)) else(bif (c.Kind:Int)==4 then(some (.inl (1,0))) else(some (.inl (0,1)))):Option ((Int×Int) ⊕ Int)) fun q=>orI q fun a26=>bi (Lcz q10.1 a26.1) fun y38=>bif y38 then(some a26.1) else(bi (Lcz q10.1 2) fun y42=>bif y42 then(some 2) else(some a26.2)))
def Ldb(k:Nat)(c:Kye)(l:List Kyh)(fresh:Int)(node:Str)(v_at:Int):Option Int:=
 bi (Lcx k c l fresh node v_at) fun y1=>bi (Lda k c y1 0) fun y3=>some y3
def Ldc(k:Nat)(p:List Kyg)(l:List Kyh)(fresh:Int)(nodes:List Str)(v_at:Int):Option (List Kyk):=
 bi (rangeF (σ:=List Kyk) (fun i1 x3 s2=>bi (rangeF (σ:=List Kyk) (fun i12 x14 s13=>bi (Ldb k x14.Cond l fresh x3 v_at) fun y23=>bif (y23:Int)==1 then(bi (apd s13 [(⟨x3,x14.Key⟩:Kyk)]) fun y26=>some y26) else(some s13)) 0 p s2) fun q15=>some q15) 0 nodes ([]:List Kyk)) fun q4=>some q4
def Ldd(s1:List Kyk)(s2:List Kyk):Option Bool:=
 bif ((s1.length:Int):Int) != (s2.length:Int) then(some false) else(bi (rangeM (σ:=Unit) (ρ:=Bool) (fun i3 x5 s4=>bi (getZ s2 (i3:Int)) fun x14=>bif !(((x5.Node:Str)==x14.Node)&&(((x5.Posture:Str)==x14.Posture)&&true)) then(bi (some false) fun v=>some (.out v)) else(some (.go ()))) 0 s1 ()) fun q=>goI q fun a8=>some true)
def Lde(k:Nat)(p:List Kyg)(l:List Kyh)(fresh:Int)(nodes:List Str)(v_at:Int):Option (Int×Bool):=
 bi (Lcs k l fresh) fun y1=>bi (rangeM (σ:=Unit) (ρ:=Int×Bool) (fun i3 x5 s4=>bi (bif ((decide ((x5:Int)>v_at))&&(decide ((x5:Int)<345686400))) then(bi (Ldc k p l fresh nodes x5) fun y17=>bi (Ldc k p l fresh nodes (wi (x5 - 1))) fun y19=>bi (Ldd y17 y19) fun y21=>some (!y21)) else(some false)) fun q14=>bif q14 then(bi (some (x5,true)) fun v=>some (.out v)) else(some (.go ()))) 0 y1 ()) fun q=>goI q fun a8=>some (0,false)
def Ldf(k:Nat)(l:List Int)(al:List Bool):Option (Bool×(List Bool)):=
 bi (Kza k (⟨l,0⟩:Kyc)) fun y1=>bi (Kyv y1.2 0 4) fun y3=>bi (Kzb y3.2 y3.1) fun y5=>bi (Kzc y5.2) fun y7=>bi (Kze y7.2) fun y9=>bi (Kzf y9.2) fun y11=>bi (Law k y1.1 y5.1 y7.1 y9.1 y11.1 al) fun y13=>bi (Lbb k y1.1 y5.1 y7.1 y9.1 y11.1 y13.2.2) fun y15=>bi (Lbq k y1.1) fun y17=>bi (Kzw k y1.1) fun y19=>bif (y19:Int) != y17 then(some (false,y15.2.2.2)) else(bi (Lbt k y5.1) fun y23=>bi (Lbu y7.1) fun y25=>bi (Lbw y9.1) fun y27=>bi (Lbx y11.1) fun y29=>bi (Lby [y17,y23,y25,y27,y29]) fun y31=>bif (y31:Int) != 0 then(bi (bif (((((y13.2.1:Int)==y31)&&((y15.2.2.1:Int)==y31))&&(((y13.1.length:Int):Int)==0))&&(!y15.2.1)) then(bi (Lcr k) fun y37=>some y37) else(some false)) fun q34=>some (q34,y15.2.2.2)) else(bi (Lde k y1.1 y5.1 y7.1 y9.1 y11.1) fun y41=>bi (bif (((y13.2.1:Int)==0)&&((y15.2.2.1:Int)==0)) then(bi (Ldc k y1.1 y5.1 y7.1 y9.1 y11.1) fun y46=>bi (Ldd y13.1 y46) fun y48=>some y48) else(some false)) fun q43=>bi (bif ((q43&&((y15.1:Int)==y41.1))&&((y15.2.1:Bool)==y41.2)) then(bi (Lcr k) fun y54=>some y54) else(some false)) fun q51=>some (q51,y15.2.2.2)))
end
end Go.Gk
