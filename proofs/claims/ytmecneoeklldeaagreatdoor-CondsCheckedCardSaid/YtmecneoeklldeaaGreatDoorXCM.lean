import Derived.Test.YtmecneoeklldeaaGreatDoorMStrS
set_option linter.unusedVariables false
namespace Go.Gk
noncomputable section
structure Kup where
 L:List Int
 v_at:Int
 deriving DecidableEq
structure Kuq where
 Kind:Int
 Number:Int
 Words:Str
 Version:(Int×Int×Int×Int)
 deriving DecidableEq
structure Kur where
 Kind:Int
 Name:Str
 Op:Str
 Value:Kuq
 Kids:KD
abbrev Kus(x:Kur):List D:=[.v (.int .i64 x.Kind),.v (.string ⟨x.Name.toArray⟩),.v (.string ⟨x.Op.toArray⟩),.v (.int .i64 x.Value.Kind),.v (.int .i64 x.Value.Number),.v (.string ⟨x.Value.Words.toArray⟩),.v (.int .i64 x.Value.Version.1),.v (.int .i64 x.Value.Version.2.1),.v (.int .i64 x.Value.Version.2.2.1),.v (.int .i64 x.Value.Version.2.2.2),.ro x.Kids.n x.Kids.xs]
def d_api_Cond:List D→Option Kur
 | [c0,c1,c2,c3,c4,c5,c6,c7,c8,c9,c10]=>bi (rdI .i64 c0) fun y0=>bi (rdS c1) fun y1=>bi (rdS c2) fun y2=>bi (rdI .i64 c3) fun y3=>bi (rdI .i64 c4) fun y4=>bi (rdS c5) fun y5=>bi (rdI .i64 c6) fun y6=>bi (rdI .i64 c7) fun y7=>bi (rdI .i64 c8) fun y8=>bi (rdI .i64 c9) fun y9=>bi (rdK c10) fun y10=>some (⟨y0,y1,y2,(⟨y3,y4,y5,(y6,y7,y8,y9)⟩:Kuq),y10⟩:Kur)
 | _=>none
theorem Kxu:DecOk Kus d_api_Cond:=by
 intro ds x h
 unfold d_api_Cond at h
 split at h
 ·obtain⟨y0,hy0,h⟩:=Khf h
  obtain⟨y1,hy1,h⟩:=Khf h
  obtain⟨y2,hy2,h⟩:=Khf h
  obtain⟨y3,hy3,h⟩:=Khf h
  obtain⟨y4,hy4,h⟩:=Khf h
  obtain⟨y5,hy5,h⟩:=Khf h
  obtain⟨y6,hy6,h⟩:=Khf h
  obtain⟨y7,hy7,h⟩:=Khf h
  obtain⟨y8,hy8,h⟩:=Khf h
  obtain⟨y9,hy9,h⟩:=Khf h
  obtain⟨y10,hy10,h⟩:=Khf h
  obtain rfl:=Knf hy0
  obtain rfl:=Kng hy1
  obtain rfl:=Kng hy2
  obtain rfl:=Knf hy3
  obtain rfl:=Knf hy4
  obtain rfl:=Kng hy5
  obtain rfl:=Knf hy6
  obtain rfl:=Knf hy7
  obtain rfl:=Knf hy8
  obtain rfl:=Knf hy9
  obtain rfl:=Knh hy10
  cases h
  rfl
 cases h
theorem Kxv(x:Kur):d_api_Cond (Kus x)=some x:=by
 cases x
 simp[Kus,d_api_Cond]
structure Kut where
 kind:Str
 v_at:Int
 v_end:Int
 name:Str
 value:Kuq
 deriving DecidableEq
structure Kuu where
 s:Str
 tok:Kut
 bad:Bool
 v_at:Int
 deriving DecidableEq
def Kuv(x:Int)(n:Int):Option Int:=
 bif decide ((n:Int)<1) then(some 0) else(bi (remZ x n) fun y3=>bi (bif decide ((y3:Int)<0) then(some (wi (y3+n))) else(some y3)) fun q5=>some q5)
def Kuw(s:Kup)(n:Int):Option (Int×Kup):=
 bif ((s.L.length:Int):Int)==0 then(bi (Kuv (wi ((wi (s.v_at+1)) * 7919)) n) fun y2=>some (y2,(⟨s.L,wi (s.v_at+1)⟩:Kup))) else(bi (remZ (wi ((wi (s.v_at+1)) - 1)) (s.L.length:Int)) fun y5=>bi (divZ .i64 (wi ((wi (s.v_at+1)) - 1)) (s.L.length:Int)) fun y7=>bi (getZ s.L y5) fun x9=>bi (Kuv x9 1073741824) fun y11=>bi (Kuv (wi (y11+(wi (y7 * (wi (7919+y5)))))) n) fun y13=>some (y13,(⟨s.L,wi (s.v_at+1)⟩:Kup)))
def Kux(s:Kup)(l:List Int):Option (Int×Kup):=
 bi (Kuw s (l.length:Int)) fun y1=>bi (getZ l y1.1) fun x3=>some (x3,y1.2)
def Kuy(s:Kup)(n:Int):Option (Bool×Kup):=
 bi (Kuw s n) fun y1=>some ((y1.1:Int)==0,y1.2)
def Kuz(s:Kup)(l:List Str):Option (Str×Kup):=
 bi (Kuw s (l.length:Int)) fun y1=>bi (getZ l y1.1) fun x3=>some (x3,y1.2)
def Kva  : Option (List Str):=
 some [[61,61],[33,61],[60],[60,61],[62],[62,61]]
def Kvb:Nat→Kup→Int→Option (Kur×Kup)
 | 0,_,_=>none
 | k+1,s,most=>bi (bif (most:Int)==0 then(some (s,true)) else(bi (Kuy s 3) fun y5=>some (y5.2,y5.1))) fun q1=>bif q1.2 then(bi (Kuw q1.1 4) fun y8=>bif (y8.1:Int)==0 then(bi (Kuz y8.2 [[61,61],[61,61],[33,61]]) fun y11=>bi (Kuw y11.2 2) fun y13=>some ((⟨1,[100,105,115,107],y11.1,(⟨3,y13.1,[],(0,0,0,0)⟩:Kuq),(pk Kus ([]:List Kur))⟩:Kur),y13.2)) else(bif (y8.1:Int)==1 then(bi Kva fun y17=>bi (Kuz y8.2 y17) fun y19=>bi (Kux y19.2 [2,5,12]) fun y21=>some ((⟨1,[118,101,114,115,105,111,110],y19.1,(⟨4,0,[],(1,y21.1,0,0)⟩:Kuq),(pk Kus ([]:List Kur))⟩:Kur),y21.2)) else(bif (y8.1:Int)==2 then(bi (Kuz y8.2 [[115,105,122,101],[111,115]]) fun y25=>bi Kva fun y27=>bi (Kuz y25.2 y27) fun y29=>bi (Kux y29.2 [0,5,-3]) fun y31=>some ((⟨1,y25.1,y29.1,(⟨1,y31.1,[],(0,0,0,0)⟩:Kuq),(pk Kus ([]:List Kur))⟩:Kur),y31.2)) else(bi Kva fun y34=>bi (Kuz y8.2 y34) fun y36=>bi (Kuz y36.2 [[108,105,110,117,120],[109,97,99],[120,34,121,92,122]]) fun y38=>some ((⟨1,[111,115],y36.1,(⟨2,0,y38.1,(0,0,0,0)⟩:Kuq),(pk Kus ([]:List Kur))⟩:Kur),y38.2))))) else(bi (Kux q1.1 [2,3,4]) fun y41=>bi (bif (y41.1:Int) != 2 then(bi (Kux y41.2 [2,2,3]) fun y46=>some (y46.2,y46.1)) else(some (y41.2,1))) fun q43=>bi (gd (decide (q43.2≤9223372036854775807)) (rangeG (σ:=Kup×(List Kur)) (fun i49 s50=>bi (Kvb k s50.1 (wi (most - 1))) fun y61=>bif (((y61.1.Kind:Int)==y41.1)&&((y41.1:Int) != 2)) then(bi (unK d_api_Cond 11 y61.1.Kids) fun l64=>bi (apd s50.2 l64) fun y66=>some (y61.2,y66)) else(bi (apd s50.2 [y61.1]) fun y69=>some (y61.2,y69))) q43.2 (q43.1,([]:List Kur)))) fun q52=>some ((⟨y41.1,[],[],(⟨0,0,[],(0,0,0,0)⟩:Kuq),(pk Kus q52.2)⟩:Kur),q52.1))
def Kvc(s:Kup)(low:Int)(high:Int):Option (Int×Kup):=
 bif decide ((high:Int)<low) then(some (low,s)) else(bi (Kuw s (wi ((wi (high - low))+1))) fun y3=>some (wi (low+y3.1),y3.2))
def Kvd(s:Kup)(low:Int)(high:Int):Option (Int×Kup):=
 bi (Kuy s 12) fun y1=>bif y1.1 then(bi (Kux y1.2 [wi (low - 1),wi (high+1),low,high,-1099511627776,1099511627776]) fun y4=>some (y4.1,y4.2)) else(bi (Kvc y1.2 low high) fun y7=>some (y7.1,y7.2))
def Kve(s:Kup):Option (Kuq×Kup):=
 bi (Kux s [1,1,2,2,3,4]) fun y1=>bi (bif (y1.1:Int)==1 then(bi (Kux y1.2 [0,5,12,-3,100000000]) fun y6=>some (y6.2,(⟨y1.1,y6.1,[],(0,0,0,0)⟩:Kuq))) else(bif (y1.1:Int)==2 then(bi (Kuz y1.2 [[108,105,110,117,120],[109,97,99],[],[97,32,34,98,92],[119,105,110]]) fun y10=>some (y10.2,(⟨y1.1,0,y10.1,(0,0,0,0)⟩:Kuq))) else(bif (y1.1:Int)==3 then(bi (Kuw y1.2 2) fun y14=>some (y14.2,(⟨y1.1,y14.1,[],(0,0,0,0)⟩:Kuq))) else(bi (Kux y1.2 [0,2,12]) fun y17=>bi (Kux y17.2 [0,3]) fun y19=>some (y19.2,(⟨y1.1,0,[],(1,y17.1,y19.1,0)⟩:Kuq)))))) fun q3=>bi (Kuy q3.1 60) fun y21=>bi (bif y21.1 then(bi (Kvd y21.2 0 1) fun y26=>bi (Kqo [119] 101) fun y28=>bi (Kuz y26.2 [[],[120],[195,169],y28]) fun y30=>some (y30.2,(⟨q3.2.Kind,y26.1,y30.1,q3.2.Version⟩:Kuq))) else(some (y21.2,q3.2))) fun q23=>some (q23.2,q23.1)
def Kvf(s:List Kur):Option (List Kur):=
 bi (apd ([]:List Kur) s) fun y1=>some y1
def Kvg(k:Nat)(s:Kup):Option (Kur×Kup):=
 bi (Kux s [0,1,2,2]) fun y1=>bi (Kvb k y1.2 y1.1) fun y3=>bi (Kuy y3.2 12) fun y5=>bi (bif y5.1 then(bi (Kuw y5.2 6) fun y10=>bif (y10.1:Int)==0 then(bi (Kuz y10.2 [[],[65],[116,114,117,101],[118,49],[118],[111,115]]) fun y13=>some (y13.2,(⟨y3.1.Kind,y13.1,y3.1.Op,y3.1.Value,y3.1.Kids⟩:Kur))) else(bif (y10.1:Int)==1 then(bi (Kuz y10.2 [[],[61],[61,61],[60]]) fun y17=>some (y17.2,(⟨y3.1.Kind,y3.1.Name,y17.1,y3.1.Value,y3.1.Kids⟩:Kur))) else(bif (y10.1:Int)==2 then(bi (Kve y10.2) fun y21=>some (y21.2,(⟨y3.1.Kind,y3.1.Name,y3.1.Op,y21.1,y3.1.Kids⟩:Kur))) else(bif (y10.1:Int)==3 then(bi (Kvd y10.2 1 4) fun y25=>some (y25.2,(⟨y25.1,y3.1.Name,y3.1.Op,y3.1.Value,y3.1.Kids⟩:Kur))) else(bif (y10.1:Int)==4 then(bi (unK d_api_Cond 11 y3.1.Kids) fun l29=>bi (Kvf l29) fun y31=>bi (Kvb k y10.2 1) fun y33=>bi (apd y31 [y33.1]) fun y35=>some (y33.2,(⟨y3.1.Kind,y3.1.Name,y3.1.Op,y3.1.Value,(pk Kus y35)⟩:Kur))) else(bi (Kux y10.2 [2,3,4]) fun y38=>some (y38.2,(⟨y38.1,[],[],(⟨0,0,[],(0,0,0,0)⟩:Kuq),(pk Kus [y3.1,y3.1])⟩:Kur)))))))) else(some (y5.2,y3.1))) fun q7=>bi (Kuy q7.1 40) fun y41=>bi (bif y41.1 then(bi (Kux y41.2 [28,29,30]) fun y46=>bi (gd (decide (y46.1≤9223372036854775807)) (rangeG (σ:=Kur) (fun i48 s49=>some (⟨2,[],[],(⟨0,0,[],(0,0,0,0)⟩:Kuq),(pk Kus [s49])⟩:Kur)) y46.1 q7.2)) fun q51=>some (y46.2,q51)) else(some (y41.2,q7.2))) fun q43=>some (q43.2,q43.1)
def Kvh:Nat→Kur→Option (Int×Int)
 | 0,_=>none
 | k+1,c=>bi (bif (c.Kind:Int)==1 then(some 1) else(some 0)) fun q1=>bi (unK d_api_Cond 11 c.Kids) fun l5=>bi (rangeF (σ:=Int×Int) (fun i7 x9 s8=>bi (Kvh k x9) fun y18=>some (wi (s8.1+y18.1),(if y18.2>s8.2 then y18.2 else s8.2))) 0 l5 (q1,0)) fun q10=>some (q10.1,wi (q10.2+1))
def Kvi(n:Int)(low:Int)(high:Int):Option Bool:=
 some ((decide ((n:Int)<low))||(decide ((n:Int)>high)))
def Kvj(v_k:Kur)(x:Kur):Option Bool:=
 some ((v_k.Kind:Int)==x.Kind)
def Kvk(s:List Kur)(f:Kur):Option Int:=
 bi (rangeM (σ:=Unit) (ρ:=Int) (fun i1 x3 s2=>bi (Kvj x3 f) fun y12=>bif y12 then(bi (some (i1:Int)) fun v=>some (.out v)) else(some (.go ()))) 0 s ()) fun q=>goI q fun a6=>some (-1)
def Kvl(s:List Kur)(f:Kur):Option Bool:=
 bi (Kvk s f) fun y1=>some (decide ((y1:Int)≥0))
def Kvm(c:Kur):Option Bool:=
 bi (unK d_api_Cond 11 c.Kids) fun l1=>bi (bif (c.Kind:Int)==1 then(bi (some (((l1.length:Int):Int)==0)) fun v=>some (.inr v)) else(bif (c.Kind:Int)==2 then(bif ((l1.length:Int):Int) != 1 then(bi (some false) fun v=>some (.inr v)) else(some (.inl ()))) else(bi (bif decide (((l1.length:Int):Int)<2) then(some true) else(bi (unK d_api_Cond 11 c.Kids) fun l20=>bi (Kvl l20 c) fun y22=>some y22)) fun q16=>bif q16 then(bi (some false) fun v=>some (.inr v)) else(some (.inl ())))):Option (Unit ⊕ Bool)) fun q=>orI q fun a5=>some ((((c.Name:Str)==[])&&((c.Op:Str)==[]))&&(((c.Value.Kind:Int)==0)&&(((c.Value.Number:Int)==0)&&(((c.Value.Words:Str)==[])&&(decide (([c.Value.Version.1,c.Value.Version.2.1,c.Value.Version.2.2.1,c.Value.Version.2.2.2]:List Int)=[0,0,0,0])&&true)))))
def Kvn(k:Nat)(s:Str):Option Bool:=
 bi (loopM (σ:=Int) (ρ:=Unit ⊕ Bool) (fun s2=>bif decide ((s2:Int)<(s.length:Int)) then(bi (getZ s s2) fun c12=>bif !(((decide (((c12.toNat:Int):Int)≥97))&&(decide (((c12.toNat:Int):Int)≤122)))||((decide ((s2:Int)>0))&&((((decide (((c12.toNat:Int):Int)≥48))&&(decide (((c12.toNat:Int):Int)≤57)))||(((c12.toNat:Int):Int)==45))||(((c12.toNat:Int):Int)==95)))) then(bi (some false) fun v=>some (.out (.inr v))) else(some (.go (wi (s2+1))))) else(some (.out (.inl ())))) k 0) fun q=>orI q fun a6=>some ((!((s:Str)==[]))&&(decide (((s.length:Int):Int)≤40)))
def Kvo(c:Int):Option Bool:=
 some ((decide ((c:Int)≥48))&&(decide ((c:Int)≤57)))
def Kvp(s:Str):Option Bool:=
 bi (bif decide (((s.length:Int):Int)>1) then(bi (getZ s 0) fun c4=>some (((c4.toNat:Int):Int)==118)) else(some false)) fun q1=>bi (bif q1 then(bi (getZ s 1) fun c10=>bi (Kvo (c10.toNat:Int)) fun y12=>some y12) else(some false)) fun q7=>some q7
def Kvq(s:List Str)(v:Str):Option Int:=
 bi (rangeM (σ:=Unit) (ρ:=Int) (fun i1 x3 s2=>bif (v:Str)==x3 then(bi (some (i1:Int)) fun v=>some (.out v)) else(some (.go ()))) 0 s ()) fun q=>goI q fun a6=>some (-1)
def Kvr(s:List Str)(v:Str):Option Bool:=
 bi (Kvq s v) fun y1=>some (decide ((y1:Int)≥0))
def Kvs(op:Str):Option Bool:=
 bi (Kvr [[61,61],[33,61],[60],[60,61],[62],[62,61]] op) fun y1=>some y1
def Kvt(s:Str):Option Bool:=
 bi (gd (decide ((s.length:Int)≤9223372036854775807)) (rangeI (σ:=Unit) (ρ:=Bool) (fun i1 s2=>bi (getZ s (i1:Int)) fun c13=>bi (bif decide (((c13.toNat:Int):Int)<32) then(some true) else(bi (getZ s (i1:Int)) fun c19=>some (decide (((c19.toNat:Int):Int)>126)))) fun q15=>bif q15 then(bi (some false) fun v=>some (.out v)) else(some (.go ()))) (s.length:Int) ())) fun q=>goI q fun a6=>some (decide (((s.length:Int):Int)≤100))
def Kvu(k:Nat)(a:Kuq):Option Int:=
 bi (Kvi a.Kind 1 4) fun y1=>bif y1 then(some 4) else(bi (bif (a.Kind:Int)==1 then(bi (Kvi a.Number (-100000000) 100000000) fun y8=>some y8) else(some false)) fun q5=>bi (bif q5 then(some true) else(bi (bif (a.Kind:Int)==3 then(bi (Kvi a.Number 0 1) fun y18=>some y18) else(some false)) fun q15=>some q15)) fun q11=>bif q11 then(some 1) else(bif ((((a.Kind:Int) != 1)&&((a.Kind:Int) != 3))&&((a.Number:Int) != 0)) then(some 3) else(bi (bif (a.Kind:Int)==2 then(bi (Kvt a.Words) fun y28=>some (!y28)) else(some false)) fun q25=>bif (q25||(((a.Kind:Int) != 2)&&(!((a.Words:Str)==[])))) then(some 3) else(bi (loopM (σ:=Int) (ρ:=Unit ⊕ Int) (fun s34=>bif decide ((s34:Int)<4) then(bi (getZ ([a.Version.1,a.Version.2.1,a.Version.2.2.1,a.Version.2.2.2]:List Int) s34) fun x44=>bi (bif (a.Kind:Int)==4 then(bi (Kvi x44 0 1000000) fun y49=>some y49) else(some false)) fun q46=>bif q46 then(bi (some 1) fun v=>some (.out (.inr v))) else(bif (((a.Kind:Int) != 4)&&((x44:Int) != 0)) then(bi (some 3) fun v=>some (.out (.inr v))) else(some (.go (wi (s34+1)))))) else(some (.out (.inl ())))) k 0) fun q=>orI q fun a38=>some 0))))
def Kvv:Nat→Kur→Option Int
 | 0,_=>none
 | k+1,c=>bi (Kvi c.Kind 1 4) fun y1=>bif y1 then(some 4) else(bi (Kvm c) fun y5=>bif !y5 then(some 3) else(bi (bif (c.Kind:Int)==1 then(bi (Kvn k c.Name) fun y13=>bi (bif (((!y13)||((c.Name:Str)==[116,114,117,101]))||((c.Name:Str)==[102,97,108,115,101])) then(some true) else(bi (Kvp c.Name) fun y19=>some y19)) fun q15=>bif q15 then(bi (some 5) fun v=>some (.inr v)) else(bi (Kvs c.Op) fun y25=>bif !y25 then(bi (some 10) fun v=>some (.inr v)) else(bi (Kvu k c.Value) fun y31=>bif (y31:Int) != 0 then(bi (some y31) fun v=>some (.inr v)) else(bif ((((c.Value.Kind:Int)==3)&&(!((c.Op:Str)==[61,61])))&&(!((c.Op:Str)==[33,61]))) then(bi (some 10) fun v=>some (.inr v)) else(some (.inl ())))))) else(some (.inl ())):Option (Unit ⊕ Int)) fun q=>orI q fun a11=>bi (unK d_api_Cond 11 c.Kids) fun l42=>bi (rangeM (σ:=Unit) (ρ:=Int) (fun i44 x46 s45=>bi (Kvv k x46) fun y55=>bif (y55:Int) != 0 then(bi (some y55) fun v=>some (.out v)) else(some (.go ()))) 0 l42 ()) fun q=>goI q fun a49=>some 0))
def Kvw(k:Nat)(c:Kur):Option Int:=
 bi (Kvh k c) fun y1=>bif ((decide ((y1.1:Int)>100))||(decide ((y1.2:Int)>30))) then(some 2) else(bi (Kvv k c) fun y5=>some y5)
def Kvx(b:Bool):Option Str:=
 bif b then(some [116,114,117,101]) else(some [102,97,108,115,101])
def Kvy(b:Bool):Option Str:=
 bi (Kvx b) fun y1=>some y1
def rpM(s:Str):Str:=s.flatMap fun c=>if c=92 then[92,92] else if c=34 then[92,34] else[c]
def Kvz(k:Nat)(a:Kuq):Option Str:=
 bif (a.Kind:Int)==1 then(bi (Kqv a.Number) fun y2=>some y2) else(bif (a.Kind:Int)==2 then none else(bif (a.Kind:Int)==3 then(bi (Kvy ((a.Number:Int)==1)) fun y8=>some y8) else(bi (loopM (σ:=(List Str)×Int) (ρ:=List Str) (fun s12=>bif decide ((s12.2:Int)<4) then(bi (getZ ([a.Version.1,a.Version.2.1,a.Version.2.2.1,a.Version.2.2.2]:List Int) s12.2) fun x22=>bi (Kqv x22) fun y24=>bi (apd s12.1 [y24]) fun y26=>some (.go (y26,wi (s12.2+1)))) else(some (.out s12.1))) k (([]:List Str),0)) fun q14=>bi (Kqy q14 [46]) fun y29=>bi (catZ [118] y29) fun y31=>some y31)))
def Kwa(k:Nat)(a:Kuq):Option Str:=
 bif (a.Kind:Int)==2 then(gd (Nat.ble a.Words.length 1099511627776) (some (34 :: (rpM a.Words++[34])))) else Kvz k a
def Kwb:Nat→Kur→Option Str
 | 0,_=>none
 | k+1,c=>bif (c.Kind:Int)==1 then(bi (catZ c.Name [32]) fun y2=>bi (catZ y2 c.Op) fun y4=>bi (catZ y4 [32]) fun y6=>bi (Kwa k c.Value) fun y8=>bi (catZ y6 y8) fun y10=>some y10) else(bif (c.Kind:Int)==2 then(bi (unK d_api_Cond 11 c.Kids) fun l14=>bi (getZ l14 0) fun x16=>bif (x16.Kind:Int)==2 then(bi (unK d_api_Cond 11 c.Kids) fun l19=>bi (getZ l19 0) fun x21=>bi (Kwb k x21) fun y23=>bi (catZ [33] y23) fun y25=>some y25) else(bi (unK d_api_Cond 11 c.Kids) fun l28=>bi (getZ l28 0) fun x30=>bi (Kwb k x30) fun y32=>bi (catZ [33,40] y32) fun y34=>bi (catZ y34 [41]) fun y36=>some y36)) else(bi (unK d_api_Cond 11 c.Kids) fun l39=>bi (rangeF (σ:=List Str) (fun i41 x43 s42=>bi (Kwb k x43) fun y52=>bi (bif (((c.Kind:Int)==3)&&((x43.Kind:Int)==4)) then(bi (catZ [40] y52) fun y57=>bi (catZ y57 [41]) fun y59=>some y59) else(some y52)) fun q54=>bi (apd s42 [q54]) fun y62=>some y62) 0 l39 ([]:List Str)) fun q44=>bif (c.Kind:Int)==3 then(bi (Kqy q44 [32,38,38,32]) fun y65=>some y65) else(bi (Kqy q44 [32,124,124,32]) fun y68=>some y68)))
def Kwc(k:Nat)(c:Kur):Option (Str×Int):=
 bi (Kvw k c) fun y1=>bif (y1:Int) != 0 then(some ([],y1)) else(bi (Kwb k c) fun y5=>bif decide (((y5.length:Int):Int)>5000) then(some ([],2)) else(some (y5,0)))
def Kwd:Nat→(List (Str×Bool))→Kur→Option (List (Str×Bool))
 | 0,_,_=>none
 | k+1,out,c=>bi (bif (c.Kind:Int)==1 then(some (mSet out c.Name true)) else(some out)) fun q1=>bi (unK d_api_Cond 11 c.Kids) fun l5=>bi (rangeF (σ:=List (Str×Bool)) (fun i7 x9 s8=>bi (Kwd k s8 x9) fun y18=>some y18) 0 l5 q1) fun q10=>some q10
def Kwe(k:Nat)(c:Kur):Option ((List Str)×Int):=
 bi (Kvw k c) fun y1=>bif (y1:Int) != 0 then(some ([],y1)) else(bi (Kwd k ([]:List (Str×Bool)) c) fun y5=>gd ((decide (y5.length≤4294967296))&&y5.all (fun e=>decide (e.1.length≤4294967296))) (some ((sortK y5),0)))
def Kwf:Nat→Kur→Option Int
 | 0,_=>none
 | k+1,c=>bi (bif (c.Kind:Int)==1 then(some 1) else(some 0)) fun q1=>bi (unK d_api_Cond 11 c.Kids) fun l5=>bi (rangeF (σ:=Int) (fun i7 x9 s8=>bi (Kwf k x9) fun y18=>some (wi (s8+y18))) 0 l5 q1) fun q10=>some q10
def Kwg:Nat→Kur→Option Int
 | 0,_=>none
 | k+1,c=>bi (unK d_api_Cond 11 c.Kids) fun l1=>bi (rangeF (σ:=Int) (fun i3 x5 s4=>bi (Kwg k x5) fun y14=>some (if y14>s4 then y14 else s4)) 0 l1 0) fun q6=>some (wi (q6+1))
def Kwh(n:Int)(low:Int)(high:Int):Option Bool:=
 some ((decide ((low:Int)≤n))&&(decide ((n:Int)≤high)))
def Kwi(v_k:Kur)(x:Kur):Option Bool:=
 some ((v_k.Kind:Int)==x.Kind)
def Kwj(s:List Kur)(f:Kur):Option Int:=
 bi (rangeM (σ:=Unit) (ρ:=Int) (fun i1 x3 s2=>bi (Kwi x3 f) fun y12=>bif y12 then(bi (some (i1:Int)) fun v=>some (.out v)) else(some (.go ()))) 0 s ()) fun q=>goI q fun a6=>some (-1)
def Kwk(s:List Kur)(f:Kur):Option Bool:=
 bi (Kwj s f) fun y1=>some (decide ((y1:Int)≥0))
def Kwl(n:Int)(low:Int)(high:Int):Option Bool:=
 some ((decide ((low:Int)≤n))&&(decide ((n:Int)≤high)))
def Kwm(s:Str)(v_some:Str):Option Bool:=
 bi (Kqm s v_some) fun y1=>some ((y1:Str)==[])
def Kwn(s:Str):Option Bool:=
 bi (Kwl (s.length:Int) 1 40) fun y1=>bi (bif y1 then(bi (subZ s 0 1) fun z6=>bi (Kwm z6 [97,98,99,100,101,102,103,104,105,106,107,108,109,110,111,112,113,114,115,116,117,118,119,120,121,122]) fun y8=>some y8) else(some false)) fun q3=>bi (bif q3 then(bi (Kwm s [97,98,99,100,101,102,103,104,105,106,107,108,109,110,111,112,113,114,115,116,117,118,119,120,121,122,48,49,50,51,52,53,54,55,56,57,45,95]) fun y14=>some y14) else(some false)) fun q11=>some q11
def Kwo(s:Str):Option Bool:=
 bi (Kwn s) fun y1=>bi (bif ((y1&&(!((s:Str)==[116,114,117,101])))&&(!((s:Str)==[102,97,108,115,101]))) then(bi (getZ s 0) fun c6=>bi (bif ((((c6.toNat:Int):Int)==118)&&(decide (((s.length:Int):Int)>1))) then(bi (getZ s 1) fun c11=>some (decide (((c11.toNat:Int):Int)≥48))) else(some false)) fun q8=>bi (bif q8 then(bi (getZ s 1) fun c17=>some (decide (((c17.toNat:Int):Int)≤57))) else(some false)) fun q14=>some (!q14)) else(some false)) fun q3=>some q3
def Kwp(k:Nat)(a:Kuq):Option Int:=
 bi (Kwh a.Kind 1 4) fun y1=>bif !y1 then(some 4) else(bi (bif (a.Kind:Int)==1 then(bi (Kwh a.Number (-100000000) 100000000) fun y8=>some (!y8)) else(some false)) fun q5=>bi (bif q5 then(some true) else(bi (bif (a.Kind:Int)==3 then(bi (Kwh a.Number 0 1) fun y18=>some (!y18)) else(some false)) fun q15=>some q15)) fun q11=>bif q11 then(some 1) else(bif ((((a.Kind:Int) != 1)&&((a.Kind:Int) != 3))&&((a.Number:Int) != 0)) then(some 3) else(bif ((((a.Kind:Int) != 2)&&(!((a.Words:Str)==[])))||(decide (((a.Words.length:Int):Int)>100))) then(some 3) else(bi (gd (decide ((a.Words.length:Int)≤9223372036854775807)) (rangeI (σ:=Unit) (ρ:=Int) (fun i27 s28=>bi (getZ a.Words (i27:Int)) fun c39=>bi (Kwh (wi ((c39.toNat:Int))) 32 126) fun y41=>bif !y41 then(bi (some 3) fun v=>some (.out v)) else(some (.go ()))) (a.Words.length:Int) ())) fun q=>goI q fun a32=>bi (loopM (σ:=Int) (ρ:=Unit ⊕ Int) (fun s48=>bif decide ((s48:Int)<4) then(bi (getZ ([a.Version.1,a.Version.2.1,a.Version.2.2.1,a.Version.2.2.2]:List Int) s48) fun x58=>bi (bif (a.Kind:Int)==4 then(bi (Kwh x58 0 1000000) fun y63=>some (!y63)) else(some false)) fun q60=>bif q60 then(bi (some 1) fun v=>some (.out (.inr v))) else(some (.go (wi (s48+1))))) else(some (.out (.inl ())))) k 0) fun q=>orI q fun a52=>bif (((a.Kind:Int) != 4)&&(!decide (([a.Version.1,a.Version.2.1,a.Version.2.2.1,a.Version.2.2.2]:List Int)=([0,0,0,0]:List Int)))) then(some 3) else(some 0)))))
def Kwq(k:Nat)(c:Kur):Option Int:=
 bi (Kwh c.Kind 1 4) fun y1=>bif !y1 then(some 4) else(bi (bif (c.Kind:Int)==1 then(bi (unK d_api_Cond 11 c.Kids) fun l8=>some (decide (((l8.length:Int):Int)>0))) else(some false)) fun q5=>bi (bif q5 then(some true) else(bi (bif (c.Kind:Int)==2 then(bi (unK d_api_Cond 11 c.Kids) fun l18=>some (((l18.length:Int):Int) != 1)) else(some false)) fun q15=>some q15)) fun q11=>bi (bif q11 then(some true) else(bi (bif ((!((c.Kind:Int)==1))&&((c.Kind:Int) != 2)) then(bi (unK d_api_Cond 11 c.Kids) fun l28=>some (decide (((l28.length:Int):Int)<2))) else(some false)) fun q25=>some q25)) fun q21=>bif q21 then(some 3) else(bif ((!((c.Kind:Int)==1))&&(((!((c.Name:Str)==[]))||(!((c.Op:Str)==[])))||(!(((c.Value.Kind:Int)==0)&&(((c.Value.Number:Int)==0)&&(((c.Value.Words:Str)==[])&&(decide (([c.Value.Version.1,c.Value.Version.2.1,c.Value.Version.2.2.1,c.Value.Version.2.2.2]:List Int)=[0,0,0,0])&&true))))))) then(some 3) else(bi (bif (((c.Kind:Int)==3)||((c.Kind:Int)==4)) then(bi (unK d_api_Cond 11 c.Kids) fun l38=>bi (Kwk l38 c) fun y40=>some y40) else(some false)) fun q35=>bif q35 then(some 3) else(bif !((c.Kind:Int)==1) then(some 0) else(bi (Kwo c.Name) fun y47=>bif !y47 then(some 5) else(bi Kva fun y51=>bi (Kvr y51 c.Op) fun y53=>bif !y53 then(some 10) else(bi (Kwp k c.Value) fun y57=>bif (y57:Int) != 0 then(some y57) else(bif ((((c.Value.Kind:Int)==3)&&(!((c.Op:Str)==[61,61])))&&(!((c.Op:Str)==[33,61]))) then(some 10) else(some 0)))))))))
def Kwr:Nat→Kur→Option Int
 | 0,_=>none
 | k+1,c=>bi (Kwq k c) fun y1=>bif (y1:Int) != 0 then(some y1) else(bi (unK d_api_Cond 11 c.Kids) fun l5=>bi (rangeM (σ:=Unit) (ρ:=Int) (fun i7 x9 s8=>bi (Kwr k x9) fun y18=>bif (y18:Int) != 0 then(bi (some y18) fun v=>some (.out v)) else(some (.go ()))) 0 l5 ()) fun q=>goI q fun a12=>some 0)
def Kws(k:Nat)(c:Kur):Option Int:=
 bi (Kwf k c) fun y1=>bi (bif decide ((y1:Int)>100) then(some true) else(bi (Kwg k c) fun y7=>some (decide ((y7:Int)>30)))) fun q3=>bif q3 then(some 2) else(bi (Kwr k c) fun y11=>some y11)
def Kwt(k:Nat)(a:Kuq):Option Str:=
 bif (a.Kind:Int)==1 then(bi (Kqv a.Number) fun y2=>some y2) else(bif (a.Kind:Int)==3 then(bi (getZ [[102,97,108,115,101],[116,114,117,101]] a.Number) fun x6=>some x6) else(bif (a.Kind:Int)==4 then(bi (loopM (σ:=(List Str)×Int) (ρ:=List Str) (fun s11=>bif decide ((s11.2:Int)<4) then(bi (getZ ([a.Version.1,a.Version.2.1,a.Version.2.2.1,a.Version.2.2.2]:List Int) s11.2) fun x21=>bi (Kqv x21) fun y23=>bi (apd s11.1 [y23]) fun y25=>some (.go (y25,wi (s11.2+1)))) else(some (.out s11.1))) k (([]:List Str),0)) fun q13=>bi (Kqy q13 [46]) fun y28=>bi (catZ [118] y28) fun y30=>some y30) else(bi (Krb a.Words [92] [92,92]) fun y33=>bi (Krb y33 [34] [92,34]) fun y35=>bi (catZ [34] y35) fun y37=>bi (catZ y37 [34]) fun y39=>some y39)))
def Kwu:Nat→Kur→Option Str
 | 0,_=>none
 | k+1,c=>bi (unK d_api_Cond 11 c.Kids) fun l1=>bi (rangeF (σ:=List Str) (fun i3 x5 s4=>bi (Kwu k x5) fun y14=>bi (bif ((((c.Kind:Int)==2)&&((x5.Kind:Int) != 2))||(((c.Kind:Int)==3)&&((x5.Kind:Int)==4))) then(bi (catZ [40] y14) fun y19=>bi (catZ y19 [41]) fun y21=>some y21) else(some y14)) fun q16=>bi (apd s4 [q16]) fun y24=>some y24) 0 l1 ([]:List Str)) fun q6=>bif (c.Kind:Int)==1 then(bi (catZ c.Name [32]) fun y27=>bi (catZ y27 c.Op) fun y29=>bi (catZ y29 [32]) fun y31=>bi (Kwt k c.Value) fun y33=>bi (catZ y31 y33) fun y35=>some y35) else(bif (c.Kind:Int)==2 then(bi (getZ q6 0) fun x39=>bi (catZ [33] x39) fun y42=>some y42) else(bif (c.Kind:Int)==3 then(bi (Kqy q6 [32,38,38,32]) fun y46=>some y46) else(bi (Kqy q6 [32,124,124,32]) fun y49=>some y49)))
def Kwv(k:Nat)(c:Kur):Option (Str×Int):=
 bi (Kws k c) fun y1=>bif (y1:Int) != 0 then(some ([],y1)) else(bi (Kwu k c) fun y5=>bif decide (((y5.length:Int):Int)>5000) then(some ([],2)) else(some (y5,0)))
def Kww:Nat→Kur→Option (List Kur)
 | 0,_=>none
 | k+1,c=>bif (c.Kind:Int)==1 then(some [c]) else(bi (unK d_api_Cond 11 c.Kids) fun l3=>bi (rangeF (σ:=List Kur) (fun i5 x7 s6=>bi (Kww k x7) fun y16=>bi (apd s6 y16) fun y18=>some y18) 0 l3 ([]:List Kur)) fun q8=>some q8)
def Kwx(k:Nat)(s:List Str):Option (List Str):=
 bif decide (((s.length:Int):Int)<2) then(some s) else(bi (loopM (σ:=Int) (ρ:=Unit ⊕ (List Str)) (fun s4=>bif decide ((s4:Int)<(s.length:Int)) then(bi (getZ s s4) fun x14=>bi (getZ s (wi (s4 - 1))) fun x17=>bif (x14:Str)==x17 then(bi (subZ s s4 (s.length:Int)) fun z21=>bi (loopM (σ:=(List Str)×Int×Int) (ρ:=(List Str)×Int) (fun s24=>bif decide ((s24.2.2:Int)<(z21.length:Int)) then(bi (getZ z21 s24.2.2) fun x34=>bi (getZ s24.1 (((s4.toNat+s24.2.2.toNat):Nat):Int)) fun x36=>bi (getZ z21 (wi (s24.2.2 - 1))) fun x39=>bi (getZ s24.1 (((s4.toNat+(wi (s24.2.2 - 1)).toNat):Nat):Int)) fun x41=>bif !((x36:Str)==x41) then(bi (getZ z21 s24.2.2) fun x45=>bi (getZ s24.1 (((s4.toNat+s24.2.2.toNat):Nat):Int)) fun x47=>bi (getZ s24.1 s24.2.1) fun x50=>some (.go (s24.1.set s24.2.1.toNat x47,wi (s24.2.1+1),wi (s24.2.2+1)))) else(some (.go (s24.1,s24.2.1,wi (s24.2.2+1))))) else(some (.out (s24.1,s24.2.1)))) k (s,s4,1)) fun q26=>bi (subZ q26.1 q26.2 (q26.1.length:Int)) fun z55=>bi (some (q26.1.take q26.2.toNat)) fun v=>some (.out (.inr v))) else(some (.go (wi (s4+1))))) else(some (.out (.inl ())))) k 1) fun q=>orI q fun a8=>some s)
def Kwy(k:Nat)(c:Kur):Option (List Str):=
 bi (Kww k c) fun y1=>bi (rangeF (σ:=List Str) (fun i3 x5 s4=>bi (apd s4 [x5.Name]) fun y14=>some y14) 0 y1 ([]:List Str)) fun q6=>bi (Krc q6) fun y16=>gd (decide (y16.length=q6.length)) (bi (Kwx k y16) fun y20=>some y20)
def Kwz(s1:List Str)(s2:List Str):Option Bool:=
 bif ((s1.length:Int):Int) != (s2.length:Int) then(some false) else(bi (rangeM (σ:=Unit) (ρ:=Bool) (fun i3 x5 s4=>bi (getZ s2 (i3:Int)) fun x14=>bif !((x5:Str)==x14) then(bi (some false) fun v=>some (.out v)) else(some (.go ()))) 0 s1 ()) fun q=>goI q fun a8=>some true)
def Kxa(k:Nat)(s:Str)(v_at:Int):Option Int:=
 bi (loopM (σ:=Int) (ρ:=Int) (fun s2=>bi (bif decide ((s2:Int)<(s.length:Int)) then(bi (getZ s s2) fun c14=>bi (Kvo (c14.toNat:Int)) fun y16=>some y16) else(some false)) fun q11=>bif q11 then(some (.go (wi (s2+1)))) else(some (.out s2))) k v_at) fun q4=>some q4
def Kxb(k:Nat)(s:Str)(most:Int):Option (Int×Bool):=
 bi (Kqj s [45]) fun y1=>bi (bif (((y1:Str)==[])||(decide (((y1.length:Int):Int)>most))) then(some true) else(bi (getZ y1 0) fun c7=>some ((((c7.toNat:Int):Int)==48)&&(!((s:Str)==[48]))))) fun q3=>bif q3 then(some (0,false)) else(bi (loopM (σ:=Int) (ρ:=Unit ⊕ (Int×Bool)) (fun s12=>bif decide ((s12:Int)<(y1.length:Int)) then(bi (getZ y1 s12) fun c22=>bi (bif decide (((c22.toNat:Int):Int)<48) then(some true) else(bi (getZ y1 s12) fun c28=>some (decide (((c28.toNat:Int):Int)>57)))) fun q24=>bif q24 then(bi (some (0,false)) fun v=>some (.out (.inr v))) else(some (.go (wi (s12+1))))) else(some (.out (.inl ())))) k 0) fun q=>orI q fun a16=>bi (Kqz s) fun y35=>some (y35,true))
def Kxc(k:Nat)(s:Str):Option (Int×Bool):=
 bi (Kxb k s 9) fun y1=>some (y1.1,y1.2)
def Kxd(k:Nat)(t:Kut)(s:Str):Option Kut:=
 bi (getZ s t.v_at) fun c1=>bi (bif ((c1.toNat:Int):Int)==45 then(some (wi (t.v_at+1))) else(some t.v_at)) fun q3=>bi (Kxa k s q3) fun y7=>bi (subZ s t.v_at y7) fun z9=>bi (Kxc k z9) fun y11=>bif y11.2 then(some (⟨[118,97,108,117,101],t.v_at,y7,t.name,(⟨1,y11.1,[],(0,0,0,0)⟩:Kuq)⟩:Kut)) else(some (⟨t.kind,t.v_at,y7,t.name,t.value⟩:Kut))
def Kxe(k:Nat)(t:Kut)(s:Str):Option Kut:=
 bi (loopM (σ:=(List Int)×Int) (ρ:=(List Int) ⊕ Kut) (fun s2=>bif decide ((s2.2:Int)<(s.length:Int)) then(bi (getZ s s2.2) fun c12=>bi (bif ((c12.toNat:Int):Int)==34 then(bi (strB s2.1) fun y18=>bi (bi (some (⟨[118,97,108,117,101],t.v_at,wi (s2.2+1),t.name,(⟨2,0,y18,(0,0,0,0)⟩:Kuq)⟩:Kut)) fun v=>some (.out (.inr v))) fun v=>some (.inr v)) else(bif ((decide (((c12.toNat:Int):Int)<32))||(decide (((c12.toNat:Int):Int)>126))) then(bi (bi (some t) fun v=>some (.out (.inr v))) fun v=>some (.inr v)) else(bif ((c12.toNat:Int):Int)==92 then(bi (bif (wi (s2.2+1):Int)==(s.length:Int) then(some true) else(bi (getZ s (wi (s2.2+1))) fun c36=>bi (bif ((c36.toNat:Int):Int) != 34 then(bi (getZ s (wi (s2.2+1))) fun c41=>some (((c41.toNat:Int):Int) != 92)) else(some false)) fun q38=>some q38)) fun q32=>bif q32 then(bi (bi (some t) fun v=>some (.out (.inr v))) fun v=>some (.inr v)) else(bi (getZ s (wi (s2.2+1))) fun c50=>some (.inl (wi (s2.2+1),(c50.toNat:Int))))) else(some (.inl (s2.2,(c12.toNat:Int)))))):Option ((Int×Int) ⊕ (LS ((List Int)×Int) ((List Int) ⊕ Kut)))) fun q=>orI q fun a16=>bi (apd s2.1 [a16.2]) fun y53=>some (.go (y53,wi (a16.1+1)))) else(some (.out (.inl s2.1)))) k (([]:List Int),wi (t.v_at+1))) fun q=>orI q fun a6=>some t
def Kxf(k:Nat)(l:List Str):Option ((List Int)×Bool):=
 bi (rangeM (σ:=List Int) (ρ:=(List Int)×Bool) (fun i1 x3 s2=>bi (Kxc k x3) fun y12=>bif !y12.2 then(bi (some ([],false)) fun v=>some (.out v)) else(bi (apd s2 [y12.1]) fun y18=>some (.go y18))) 0 l ([]:List Int)) fun q=>goI q fun a6=>some (a6,true)
def Kxg(k:Nat)(t:Kut)(s:Str):Option Kut:=
 bi (loopM (σ:=Int) (ρ:=Int) (fun s2=>bi (bif decide ((s2:Int)<(s.length:Int)) then(bi (getZ s s2) fun c14=>bi (Kvo (c14.toNat:Int)) fun y16=>bi (bif y16 then(some true) else(bi (getZ s s2) fun c22=>some (((c22.toNat:Int):Int)==46))) fun q18=>some q18) else(some false)) fun q11=>bif q11 then(some (.go (wi (s2+1)))) else(some (.out s2))) k (wi (t.v_at+1))) fun q4=>bi (subZ s (wi (t.v_at+1)) q4) fun z27=>bi (Kqn z27 [46]) fun y29=>bi (Kxf k y29) fun y31=>bif ((!y31.2)||(decide (((y29.length:Int):Int)>4))) then(some (⟨t.kind,t.v_at,q4,t.name,t.value⟩:Kut)) else(some (⟨[118,97,108,117,101],t.v_at,q4,t.name,(⟨4,0,[],(cpA (0:Int).toNat y31.1 0 0,cpA (0:Int).toNat y31.1 1 0,cpA (0:Int).toNat y31.1 2 0,cpA (0:Int).toNat y31.1 3 0)⟩:Kuq)⟩:Kut))
def Kxh(c:Int):Option Bool:=
 bi (bif ((decide ((c:Int)≥97))&&(decide ((c:Int)≤122))) then(some true) else(bi (Kvo c) fun y5=>some y5)) fun q1=>some ((q1||((c:Int)==45))||((c:Int)==95))
def Kxi(k:Nat)(t:Kut)(s:Str):Option Kut:=
 bi (loopM (σ:=Int) (ρ:=Int) (fun s2=>bi (bif decide ((s2:Int)<(s.length:Int)) then(bi (getZ s s2) fun c14=>bi (Kxh (c14.toNat:Int)) fun y16=>some y16) else(some false)) fun q11=>bif q11 then(some (.go (wi (s2+1)))) else(some (.out s2))) k t.v_at) fun q4=>bi (subZ s t.v_at q4) fun z21=>bif (((z21:Str)==[116,114,117,101])||((z21:Str)==[102,97,108,115,101])) then(bif (z21:Str)==[116,114,117,101] then(some (⟨[118,97,108,117,101],t.v_at,q4,z21,(⟨3,1,[],(0,0,0,0)⟩:Kuq)⟩:Kut)) else(some (⟨[118,97,108,117,101],t.v_at,q4,z21,(⟨3,0,[],(0,0,0,0)⟩:Kuq)⟩:Kut))) else(some (⟨[110,97,109,101],t.v_at,q4,z21,t.value⟩:Kut))
def Kxj(k:Nat)(s:Str)(v_at:Int):Option Kut:=
 bif (v_at:Int)==(s.length:Int) then(some (⟨[101,110,100],v_at,0,[],(⟨0,0,[],(0,0,0,0)⟩:Kuq)⟩:Kut)) else(bi (rangeM (σ:=Unit) (ρ:=Kut) (fun i3 x5 s4=>bi (subZ s v_at (s.length:Int)) fun z14=>bi (Kqi z14 x5) fun y16=>bif y16 then(bi (some (⟨x5,v_at,wi (v_at+(x5.length:Int)),[],(⟨0,0,[],(0,0,0,0)⟩:Kuq)⟩:Kut)) fun v=>some (.out v)) else(some (.go ()))) 0 [[61,61],[33,61],[60,61],[62,61],[38,38],[124,124],[60],[62],[33],[40],[41]] ()) fun q=>goI q fun a8=>bi (getZ s v_at) fun c22=>bi (bi (Kvo (c22.toNat:Int)) fun y26=>bi (bif y26 then(some true) else(bi (bif ((((c22.toNat:Int):Int)==45)&&(decide ((wi (v_at+1):Int)<(s.length:Int)))) then(bi (getZ s (wi (v_at+1))) fun c35=>bi (Kvo (c35.toNat:Int)) fun y37=>some y37) else(some false)) fun q32=>some q32)) fun q28=>bif q28 then(bi (Kxd k (⟨[98,97,100],v_at,0,[],(⟨0,0,[],(0,0,0,0)⟩:Kuq)⟩:Kut) s) fun y41=>some y41) else(bif ((c22.toNat:Int):Int)==34 then(bi (Kxe k (⟨[98,97,100],v_at,0,[],(⟨0,0,[],(0,0,0,0)⟩:Kuq)⟩:Kut) s) fun y45=>some y45) else(bi (subZ s v_at (s.length:Int)) fun z48=>bi (Kvp z48) fun y50=>bif y50 then(bi (Kxg k (⟨[98,97,100],v_at,0,[],(⟨0,0,[],(0,0,0,0)⟩:Kuq)⟩:Kut) s) fun y53=>some y53) else(bif ((decide (((c22.toNat:Int):Int)≥97))&&(decide (((c22.toNat:Int):Int)≤122))) then(bi (Kxi k (⟨[98,97,100],v_at,0,[],(⟨0,0,[],(0,0,0,0)⟩:Kuq)⟩:Kut) s) fun y57=>some y57) else(some (⟨[98,97,100],v_at,0,[],(⟨0,0,[],(0,0,0,0)⟩:Kuq)⟩:Kut)))))) fun q24=>some q24)
def Kxk(k:Nat)(p:Kuu):Option Kuu:=
 bi (loopM (σ:=Int) (ρ:=Int) (fun s2=>bi (bif decide ((s2:Int)<(p.s.length:Int)) then(bi (getZ p.s s2) fun c14=>bi (bif ((c14.toNat:Int):Int)==32 then(some true) else(bi (getZ p.s s2) fun c20=>some (((c20.toNat:Int):Int)==10))) fun q16=>some q16) else(some false)) fun q11=>bif q11 then(some (.go (wi (s2+1)))) else(some (.out s2))) k p.tok.v_end) fun q4=>bi (Kxj k p.s q4) fun y25=>some (⟨p.s,y25,p.bad,p.v_at⟩:Kuu)
def Kxl(p:Kuu):Option (Kur×Kuu):=
 bi (bif !p.bad then(some (⟨p.s,p.tok,true,p.tok.v_at⟩:Kuu)) else(some p)) fun q1=>some ((⟨0,[],[],(⟨0,0,[],(0,0,0,0)⟩:Kuq),(KD.mk 0 [])⟩:Kur),q1)
def Kxm(k:Nat)(p:Kuu):Option (Kur×Kuu):=
 bi (Kxk k p) fun y1=>bi (Kvs y1.tok.kind) fun y3=>bif !y3 then(some ((⟨1,p.tok.name,[61,61],(⟨3,1,[],(0,0,0,0)⟩:Kuq),(KD.mk 0 [])⟩:Kur),y1)) else(bi (Kxk k y1) fun y7=>bif !((y7.tok.kind:Str)==[118,97,108,117,101]) then(bi (Kxl y7) fun y10=>some (y10.1,y10.2)) else(bi (Kxk k y7) fun y13=>some ((⟨1,p.tok.name,y1.tok.kind,y7.tok.value,(KD.mk 0 [])⟩:Kur),y13)))
def Kxn(rc_posture_parser_cond:Kuu→Option (Kur×Kuu)):Nat→Kuu→Option (Kur×Kuu)
 | 0,_=>none
 | k+1,p=>bif (p.tok.kind:Str)==[33] then(bi (Kxk k p) fun y2=>bi (Kxn rc_posture_parser_cond k y2) fun y4=>some ((⟨2,[],[],(⟨0,0,[],(0,0,0,0)⟩:Kuq),(pk Kus [y4.1])⟩:Kur),y4.2)) else(bif (p.tok.kind:Str)==[40] then(bi (Kxk k p) fun y8=>bi (rc_posture_parser_cond y8) fun y10=>bif y10.2.bad then(some (y10.1,y10.2)) else(bif !((y10.2.tok.kind:Str)==[41]) then(bi (Kxl y10.2) fun y15=>some (y15.1,y15.2)) else(bi (Kxk k y10.2) fun y18=>some (y10.1,y18)))) else(bif (p.tok.kind:Str)==[110,97,109,101] then(bi (Kxm k p) fun y22=>some (y22.1,y22.2)) else(bi (Kxl p) fun y25=>some (y25.1,y25.2))))
def Kxo(kind:Int)(l:List Kur):Option Kur:=
 bif ((l.length:Int):Int)==1 then(bi (getZ l 0) fun x2=>some x2) else(bi (rangeF (σ:=List Kur) (fun i5 x7 s6=>bif (x7.Kind:Int)==kind then(bi (unK d_api_Cond 11 x7.Kids) fun l17=>bi (apd s6 l17) fun y19=>some y19) else(bi (apd s6 [x7]) fun y22=>some y22)) 0 l ([]:List Kur)) fun q8=>some (⟨kind,[],[],(⟨0,0,[],(0,0,0,0)⟩:Kuq),(pk Kus q8)⟩:Kur))
def Kxp(rc_posture_parser_cond:Kuu→Option (Kur×Kuu))(k:Nat)(p:Kuu):Option (Kur×Kuu):=
 bi (Kxn rc_posture_parser_cond k p) fun y1=>bi (loopM (σ:=Kuu×(List Kur)) (ρ:=Kuu×(List Kur)) (fun s4=>bif ((!s4.1.bad)&&((s4.1.tok.kind:Str)==[38,38])) then(bi (Kxk k s4.1) fun y14=>bi (Kxn rc_posture_parser_cond k y14) fun y16=>bi (apd s4.2 [y16.1]) fun y18=>some (.go (y16.2,y18))) else(some (.out (s4.1,s4.2)))) k (y1.2,[y1.1])) fun q6=>bi (Kxo 3 q6.2) fun y21=>some (y21,q6.1)
def Kxq:Nat→Kuu→Option (Kur×Kuu)
 | 0,_=>none
 | k+1,p=>bi (Kxp (Kxq k) k p) fun y1=>bi (loopM (σ:=Kuu×(List Kur)) (ρ:=Kuu×(List Kur)) (fun s4=>bif ((!s4.1.bad)&&((s4.1.tok.kind:Str)==[124,124])) then(bi (Kxk k s4.1) fun y14=>bi (Kxp (Kxq k) k y14) fun y16=>bi (apd s4.2 [y16.1]) fun y18=>some (.go (y16.2,y18))) else(some (.out (s4.1,s4.2)))) k (y1.2,[y1.1])) fun q6=>bi (Kxo 4 q6.2) fun y21=>some (y21,q6.1)
def Kxr(k:Nat)(text:Str):Option (Kur×Int×Int):=
 bif decide (((text.length:Int):Int)>5000) then(some ((⟨0,[],[],(⟨0,0,[],(0,0,0,0)⟩:Kuq),(KD.mk 0 [])⟩:Kur),0,2)) else(bi (Kxk k (⟨text,(⟨[],0,0,[],(⟨0,0,[],(0,0,0,0)⟩:Kuq)⟩:Kut),false,0⟩:Kuu)) fun y3=>bi (Kxq k y3) fun y5=>bi (bif ((!y5.2.bad)&&(!((y5.2.tok.kind:Str)==[101,110,100]))) then(bi (Kxl y5.2) fun y10=>some y10.2) else(some y5.2)) fun q7=>bif q7.bad then(some ((⟨0,[],[],(⟨0,0,[],(0,0,0,0)⟩:Kuq),(KD.mk 0 [])⟩:Kur),q7.v_at,9)) else(bi (Kvw k y5.1) fun y15=>bif (y15:Int) != 0 then(some ((⟨0,[],[],(⟨0,0,[],(0,0,0,0)⟩:Kuq),(KD.mk 0 [])⟩:Kur),0,y15)) else(some (y5.1,0,0))))
def Kxs(k:Nat):Option Bool:=
 bi (Kxr k [97]) fun y1=>some ((((y1.2.2:Int)==0)&&((y1.1.Kind:Int)==1))&&((y1.1.Name:Str)==[97]))
def Kxt(k:Nat)(l:List Int):Option Bool:=
 bi (Kvg k (⟨l,0⟩:Kup)) fun y1=>bi (Kwc k y1.1) fun y3=>bi (Kwe k y1.1) fun y5=>bi (Kws k y1.1) fun y7=>bi (Kvw k y1.1) fun y9=>bif (((y9:Int) != y7)||((y5.2:Int) != y7)) then(some false) else(bi (Kwv k y1.1) fun y13=>bi (bif (((y3.2:Int)==y13.2)&&((y3.1:Str)==y13.1)) then(bi (bif (y7:Int) != 0 then(some true) else(bi (Kwy k y1.1) fun y22=>bi (Kwz y5.1 y22) fun y24=>some y24)) fun q18=>some q18) else(some false)) fun q15=>bi (bif q15 then(bi (Kxs k) fun y30=>some y30) else(some false)) fun q27=>some q27)
end
end Go.Gk
