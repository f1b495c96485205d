import Derived.Test.YthhdojhbohfmnaaGreatDoorMStr9
import Derived.Test.YthhdojhbohfmnaaGreatDoorMStrI
import Derived.Test.YthhdojhbohfmnaaGreatDoorGk59
set_option linter.unusedVariables false
namespace Go.Gk
noncomputable section
structure Lcu where
 L:List Int
 v_at:Int
 deriving DecidableEq
structure Lcv where
 Kind:Int
 Number:Int
 Words:Str
 Version:(Int×Int×Int×Int)
 deriving DecidableEq
structure Lcw where
 Kind:Int
 Name:Str
 Op:Str
 Value:Lcv
 Kids:KD
abbrev Lcx(x:Lcw):List D:=[.v (.int .i64 x.Kind),.v (.string ⟨x.Name.toArray⟩),.v (.string ⟨x.Op.toArray⟩),.v (.int .i64 x.Value.Kind),.v (.int .i64 x.Value.Number),.v (.string ⟨x.Value.Words.toArray⟩),.v (.int .i64 x.Value.Version.1),.v (.int .i64 x.Value.Version.2.1),.v (.int .i64 x.Value.Version.2.2.1),.v (.int .i64 x.Value.Version.2.2.2),.ro x.Kids.n x.Kids.xs]
def d_api_Cond:List D→Option Lcw
 | [c0,c1,c2,c3,c4,c5,c6,c7,c8,c9,c10]=>bi (rdI .i64 c0) fun y0=>bi (rdS c1) fun y1=>bi (rdS c2) fun y2=>bi (rdI .i64 c3) fun y3=>bi (rdI .i64 c4) fun y4=>bi (rdS c5) fun y5=>bi (rdI .i64 c6) fun y6=>bi (rdI .i64 c7) fun y7=>bi (rdI .i64 c8) fun y8=>bi (rdI .i64 c9) fun y9=>bi (rdK c10) fun y10=>some (⟨y0,y1,y2,(⟨y3,y4,y5,(y6,y7,y8,y9)⟩:Lcv),y10⟩:Lcw)
 | _=>none
theorem Lht:DecOk Lcx d_api_Cond:=by
 intro ds x h
 unfold d_api_Cond at h
 split at h
 ·obtain⟨y0,hy0,h⟩:=Khz h
  obtain⟨y1,hy1,h⟩:=Khz h
  obtain⟨y2,hy2,h⟩:=Khz h
  obtain⟨y3,hy3,h⟩:=Khz h
  obtain⟨y4,hy4,h⟩:=Khz h
  obtain⟨y5,hy5,h⟩:=Khz h
  obtain⟨y6,hy6,h⟩:=Khz h
  obtain⟨y7,hy7,h⟩:=Khz h
  obtain⟨y8,hy8,h⟩:=Khz h
  obtain⟨y9,hy9,h⟩:=Khz h
  obtain⟨y10,hy10,h⟩:=Khz h
  obtain rfl:=Kpc hy0
  obtain rfl:=Kpd hy1
  obtain rfl:=Kpd hy2
  obtain rfl:=Kpc hy3
  obtain rfl:=Kpc hy4
  obtain rfl:=Kpd hy5
  obtain rfl:=Kpc hy6
  obtain rfl:=Kpc hy7
  obtain rfl:=Kpc hy8
  obtain rfl:=Kpc hy9
  obtain rfl:=Kpe hy10
  cases h
  rfl
 cases h
theorem Lhu(x:Lcw):d_api_Cond (Lcx x)=some x:=by
 cases x
 simp[Lcx,d_api_Cond]
structure Lcy where
 At:Int
 Node:Str
 Name:Str
 Value:Lcv
 deriving DecidableEq
structure Lcz where
 From:Int
 To:Int
 deriving DecidableEq
structure Lda where
 node:Str
 name:Str
 deriving DecidableEq
structure Ldb where
 fresh:Int
 list:List (Lda×(Tl Lcy))
 deriving DecidableEq
structure Ldc where
 is:Int
 proof:List Int
 deriving DecidableEq
structure Ldd where
 kind:Str
 v_at:Int
 v_end:Int
 name:Str
 value:Lcv
 deriving DecidableEq
structure Lde where
 s:Str
 tok:Ldd
 bad:Bool
 v_at:Int
 deriving DecidableEq
def Ldf(x:Int)(n:Int):Option Int:=
 bif decide ((n:Int)<1) then(some 0) else(bi (remZ x n) fun y3=>bi (bif decide ((y3:Int)<0) then(some (wi (y3+n))) else(some y3)) fun q5=>some q5)
def Ldg(s:Lcu)(n:Int):Option (Int×Lcu):=
 bif ((s.L.length:Int):Int)==0 then(bi (Ldf (wi ((wi (s.v_at+1)) * 7919)) n) fun y2=>some (y2,(⟨s.L,wi (s.v_at+1)⟩:Lcu))) else(bi (remZ (wi ((wi (s.v_at+1)) - 1)) (s.L.length:Int)) fun y5=>bi (divZ .i64 (wi ((wi (s.v_at+1)) - 1)) (s.L.length:Int)) fun y7=>bi (getZ s.L y5) fun x9=>bi (Ldf x9 1073741824) fun y11=>bi (Ldf (wi (y11+(wi (y7 * (wi (7919+y5)))))) n) fun y13=>some (y13,(⟨s.L,wi (s.v_at+1)⟩:Lcu)))
def Ldh(s:Lcu)(l:List Int):Option (Int×Lcu):=
 bi (Ldg s (l.length:Int)) fun y1=>bi (getZ l y1.1) fun x3=>some (x3,y1.2)
def Ldi(s:Lcu)(n:Int):Option (Bool×Lcu):=
 bi (Ldg s n) fun y1=>some ((y1.1:Int)==0,y1.2)
def Ldj(s:Lcu)(l:List Str):Option (Str×Lcu):=
 bi (Ldg s (l.length:Int)) fun y1=>bi (getZ l y1.1) fun x3=>some (x3,y1.2)
def Ldk  : Option (List Str):=
 some [[61,61],[33,61],[60],[60,61],[62],[62,61]]
def Ldl:Nat→Lcu→Int→Option (Lcw×Lcu)
 | 0,_,_=>none
 | k+1,s,most=>bi (bif (most:Int)==0 then(some (s,true)) else(bi (Ldi s 3) fun y5=>some (y5.2,y5.1))) fun q1=>bif q1.2 then(bi (Ldg q1.1 4) fun y8=>bif (y8.1:Int)==0 then(bi (Ldj y8.2 [[61,61],[61,61],[33,61]]) fun y11=>bi (Ldg y11.2 2) fun y13=>some ((⟨1,[100,105,115,107],y11.1,(⟨3,y13.1,[],(0,0,0,0)⟩:Lcv),(pk Lcx ([]:List Lcw))⟩:Lcw),y13.2)) else(bif (y8.1:Int)==1 then(bi Ldk fun y17=>bi (Ldj y8.2 y17) fun y19=>bi (Ldh y19.2 [2,5,12]) fun y21=>some ((⟨1,[118,101,114,115,105,111,110],y19.1,(⟨4,0,[],(1,y21.1,0,0)⟩:Lcv),(pk Lcx ([]:List Lcw))⟩:Lcw),y21.2)) else(bif (y8.1:Int)==2 then(bi (Ldj y8.2 [[115,105,122,101],[111,115]]) fun y25=>bi Ldk fun y27=>bi (Ldj y25.2 y27) fun y29=>bi (Ldh y29.2 [0,5,-3]) fun y31=>some ((⟨1,y25.1,y29.1,(⟨1,y31.1,[],(0,0,0,0)⟩:Lcv),(pk Lcx ([]:List Lcw))⟩:Lcw),y31.2)) else(bi Ldk fun y34=>bi (Ldj y8.2 y34) fun y36=>bi (Ldj y36.2 [[108,105,110,117,120],[109,97,99],[120,34,121,92,122]]) fun y38=>some ((⟨1,[111,115],y36.1,(⟨2,0,y38.1,(0,0,0,0)⟩:Lcv),(pk Lcx ([]:List Lcw))⟩:Lcw),y38.2))))) else(bi (Ldh q1.1 [2,3,4]) fun y41=>bi (bif (y41.1:Int) != 2 then(bi (Ldh y41.2 [2,2,3]) fun y46=>some (y46.2,y46.1)) else(some (y41.2,1))) fun q43=>bi (gd (decide (q43.2≤9223372036854775807)) (rangeG (σ:=Lcu×(List Lcw)) (fun i49 s50=>bi (Ldl k s50.1 (wi (most - 1))) fun y61=>bif (((y61.1.Kind:Int)==y41.1)&&((y41.1:Int) != 2)) then(bi (unK d_api_Cond 11 y61.1.Kids) fun l64=>bi (apd s50.2 l64) fun y66=>some (y61.2,y66)) else(bi (apd s50.2 [y61.1]) fun y69=>some (y61.2,y69))) q43.2 (q43.1,([]:List Lcw)))) fun q52=>some ((⟨y41.1,[],[],(⟨0,0,[],(0,0,0,0)⟩:Lcv),(pk Lcx q52.2)⟩:Lcw),q52.1))
def Ldm(s:Lcu)(low:Int)(high:Int):Option (Int×Lcu):=
 bif decide ((high:Int)<low) then(some (low,s)) else(bi (Ldg s (wi ((wi (high - low))+1))) fun y3=>some (wi (low+y3.1),y3.2))
def Ldn(s:Lcu)(low:Int)(high:Int):Option (Int×Lcu):=
 bi (Ldi s 12) fun y1=>bif y1.1 then(bi (Ldh y1.2 [wi (low - 1),wi (high+1),low,high,-1099511627776,1099511627776]) fun y4=>some (y4.1,y4.2)) else(bi (Ldm y1.2 low high) fun y7=>some (y7.1,y7.2))
def Ldo(s:Lcu):Option (Lcv×Lcu):=
 bi (Ldh s [1,1,2,2,3,4]) fun y1=>bi (bif (y1.1:Int)==1 then(bi (Ldh y1.2 [0,5,12,-3,100000000]) fun y6=>some (y6.2,(⟨y1.1,y6.1,[],(0,0,0,0)⟩:Lcv))) else(bif (y1.1:Int)==2 then(bi (Ldj y1.2 [[108,105,110,117,120],[109,97,99],[],[97,32,34,98,92],[119,105,110]]) fun y10=>some (y10.2,(⟨y1.1,0,y10.1,(0,0,0,0)⟩:Lcv))) else(bif (y1.1:Int)==3 then(bi (Ldg y1.2 2) fun y14=>some (y14.2,(⟨y1.1,y14.1,[],(0,0,0,0)⟩:Lcv))) else(bi (Ldh y1.2 [0,2,12]) fun y17=>bi (Ldh y17.2 [0,3]) fun y19=>some (y19.2,(⟨y1.1,0,[],(1,y17.1,y19.1,0)⟩:Lcv)))))) fun q3=>bi (Ldi q3.1 60) fun y21=>bi (bif y21.1 then(bi (Ldn y21.2 0 1) fun y26=>bi (Kya [119] 101) fun y28=>bi (Ldj y26.2 [[],[120],[195,169],y28]) fun y30=>some (y30.2,(⟨q3.2.Kind,y26.1,y30.1,q3.2.Version⟩:Lcv))) else(some (y21.2,q3.2))) fun q23=>some (q23.2,q23.1)
def Ldp(s:List Lcw):Option (List Lcw):=
 bi (apd ([]:List Lcw) s) fun y1=>some y1
def Ldq(k:Nat)(s:Lcu):Option (Lcw×Lcu):=
 bi (Ldh s [0,1,2,2]) fun y1=>bi (Ldl k y1.2 y1.1) fun y3=>bi (Ldi y3.2 12) fun y5=>bi (bif y5.1 then(bi (Ldg y5.2 6) fun y10=>bif (y10.1:Int)==0 then(bi (Ldj y10.2 [[],[65],[116,114,117,101],[118,49],[118],[111,115]]) fun y13=>some (y13.2,(⟨y3.1.Kind,y13.1,y3.1.Op,y3.1.Value,y3.1.Kids⟩:Lcw))) else(bif (y10.1:Int)==1 then(bi (Ldj y10.2 [[],[61],[61,61],[60]]) fun y17=>some (y17.2,(⟨y3.1.Kind,y3.1.Name,y17.1,y3.1.Value,y3.1.Kids⟩:Lcw))) else(bif (y10.1:Int)==2 then(bi (Ldo y10.2) fun y21=>some (y21.2,(⟨y3.1.Kind,y3.1.Name,y3.1.Op,y21.1,y3.1.Kids⟩:Lcw))) else(bif (y10.1:Int)==3 then(bi (Ldn y10.2 1 4) fun y25=>some (y25.2,(⟨y25.1,y3.1.Name,y3.1.Op,y3.1.Value,y3.1.Kids⟩:Lcw))) else(bif (y10.1:Int)==4 then(bi (unK d_api_Cond 11 y3.1.Kids) fun l29=>bi (Ldp l29) fun y31=>bi (Ldl k y10.2 1) fun y33=>bi (apd y31 [y33.1]) fun y35=>some (y33.2,(⟨y3.1.Kind,y3.1.Name,y3.1.Op,y3.1.Value,(pk Lcx y35)⟩:Lcw))) else(bi (Ldh y10.2 [2,3,4]) fun y38=>some (y38.2,(⟨y38.1,[],[],(⟨0,0,[],(0,0,0,0)⟩:Lcv),(pk Lcx [y3.1,y3.1])⟩:Lcw)))))))) else(some (y5.2,y3.1))) fun q7=>bi (Ldi q7.1 40) fun y41=>bi (bif y41.1 then(bi (Ldh y41.2 [28,29,30]) fun y46=>bi (gd (decide (y46.1≤9223372036854775807)) (rangeG (σ:=Lcw) (fun i48 s49=>some (⟨2,[],[],(⟨0,0,[],(0,0,0,0)⟩:Lcv),(pk Lcx [s49])⟩:Lcw)) y46.1 q7.2)) fun q51=>some (y46.2,q51)) else(some (y41.2,q7.2))) fun q43=>some (q43.2,q43.1)
def Ldr(s:Lcu)(many:Int):Option ((List Lcy)×Lcu):=
 bi (Ldg s 5) fun y1=>bi (gd (decide (many≤9223372036854775807)) (rangeG (σ:=Lcu×(List Lcy)×Int) (fun i3 s4=>bi (rangeF (σ:=Lcu×(List Lcy)) (fun i15 x17 s16=>bi (rangeF (σ:=Lcu×(List Lcy)) (fun i26 x28 s27=>bi (Ldi s27.1 4) fun y37=>bif !y37.1 then(some (y37.2,s27.2)) else(bi (bif (x28:Str)==[100,105,115,107] then(bi (Ldg y37.2 2) fun y44=>some (y44.2,(⟨s4.2.2,x17,x28,(⟨3,y44.1,[],(0,0,0,0)⟩:Lcv)⟩:Lcy))) else(bif (x28:Str)==[111,115] then(bi (Ldj y37.2 [[108,105,110,117,120],[108,105,110,117,120],[109,97,99]]) fun y48=>some (y48.2,(⟨s4.2.2,x17,x28,(⟨2,0,y48.1,(0,0,0,0)⟩:Lcv)⟩:Lcy))) else(bi (Ldh y37.2 [2,12]) fun y51=>some (y51.2,(⟨s4.2.2,x17,x28,(⟨4,0,[],(1,y51.1,0,0)⟩:Lcv)⟩:Lcy))))) fun q41=>bi (Ldi q41.1 15) fun y53=>bi (bif y53.1 then(bi (Ldo y53.2) fun y58=>some (y58.2,(⟨q41.2.At,q41.2.Node,q41.2.Name,y58.1⟩:Lcy))) else(some (y53.2,q41.2))) fun q55=>bi (apd s27.2 [q55.2]) fun y61=>some (q55.1,y61))) 0 [[100,105,115,107],[111,115],[118,101,114,115,105,111,110]] (s16.1,s16.2)) fun q29=>some (q29.1,q29.2)) 0 [[110,97],[110,98]] (s4.1,s4.2.1)) fun q18=>bi (Ldh q18.1 [1,5,20,60]) fun y63=>some (y63.2,q18.2,wi (s4.2.2+y63.1))) many (y1.2,([]:List Lcy),y1.1))) fun q6=>bi (Ldi q6.1 20) fun y65=>bi (bif y65.1 then(bi (Ldn y65.2 0 1000) fun y70=>bi (Ldj y70.2 [[],[110,97]]) fun y72=>bi (Ldj y72.2 [[111,115],[65]]) fun y74=>bi (Ldo y74.2) fun y76=>bi (apd q6.2.1 [(⟨y70.1,y72.1,y74.1,y76.1⟩:Lcy)]) fun y78=>some (y76.2,y78)) else(some (y65.2,q6.2.1))) fun q67=>some (q67.2,q67.1)
def Lds(s:Lcu):Option (Int×Lcu):=
 bi (Ldh s [20,0,345686401]) fun y1=>bi (Ldh y1.2 [1,20,30,50,50,100,345686400,y1.1]) fun y3=>some (y3.1,y3.2)
def Ldt(s:Lcu):Option (Int×Lcu):=
 bi (Ldg s 300) fun y1=>bi (Ldg y1.2 300) fun y3=>bi (Ldh y3.2 [345686399,-1,345686400]) fun y5=>bi (Ldh y5.2 [0,5,20,40,60,80,120,y1.1,y3.1,y5.1]) fun y7=>some (y7.1,y7.2)
def Ldu(s:Lcu):Option (Lcz×Lcu):=
 bi (Ldh s [0,5,30,100]) fun y1=>bi (Ldh y1.2 [30,100,250,1000,345686400]) fun y3=>bi (Ldi y3.2 20) fun y5=>bi (bif y5.1 then(bi (Ldh y5.2 [-1,10]) fun y10=>bi (Ldh y10.2 [9,345686401]) fun y12=>some (y12.2,(⟨y10.1,y12.1⟩:Lcz))) else(some (y5.2,(⟨y1.1,y3.1⟩:Lcz)))) fun q7=>some (q7.2,q7.1)
def Ldv:Nat→Lcw→Option (Int×Int)
 | 0,_=>none
 | k+1,c=>bi (bif (c.Kind:Int)==1 then(some 1) else(some 0)) fun q1=>bi (unK d_api_Cond 11 c.Kids) fun l5=>bi (rangeF (σ:=Int×Int) (fun i7 x9 s8=>bi (Ldv k x9) fun y18=>some (wi (s8.1+y18.1),(if y18.2>s8.2 then y18.2 else s8.2))) 0 l5 (q1,0)) fun q10=>some (q10.1,wi (q10.2+1))
def Ldw(n:Int)(low:Int)(high:Int):Option Bool:=
 some ((decide ((n:Int)<low))||(decide ((n:Int)>high)))
def Ldx(v_k:Lcw)(x:Lcw):Option Bool:=
 some ((v_k.Kind:Int)==x.Kind)
def Ldy(s:List Lcw)(f:Lcw):Option Int:=
 bi (rangeM (σ:=Unit) (ρ:=Int) (fun i1 x3 s2=>bi (Ldx x3 f) fun y12=>bif y12 then(bi (some (i1:Int)) fun v=>some (.out v)) else(some (.go ()))) 0 s ()) fun q=>goI q fun a6=>some (-1)
def Ldz(s:List Lcw)(f:Lcw):Option Bool:=
 bi (Ldy s f) fun y1=>some (decide ((y1:Int)≥0))
def Lea(c:Lcw):Option Bool:=
 bi (unK d_api_Cond 11 c.Kids) fun l1=>bi (bif (c.Kind:Int)==1 then(bi (some (((l1.length:Int):Int)==0)) fun v=>some (.inr v)) else(bif (c.Kind:Int)==2 then(bif ((l1.length:Int):Int) != 1 then(bi (some false) fun v=>some (.inr v)) else(some (.inl ()))) else(bi (bif decide (((l1.length:Int):Int)<2) then(some true) else(bi (unK d_api_Cond 11 c.Kids) fun l20=>bi (Ldz l20 c) fun y22=>some y22)) fun q16=>bif q16 then(bi (some false) fun v=>some (.inr v)) else(some (.inl ())))):Option (Unit ⊕ Bool)) fun q=>orI q fun a5=>some ((((c.Name:Str)==[])&&((c.Op:Str)==[]))&&(((c.Value.Kind:Int)==0)&&(((c.Value.Number:Int)==0)&&(((c.Value.Words:Str)==[])&&(decide (([c.Value.Version.1,c.Value.Version.2.1,c.Value.Version.2.2.1,c.Value.Version.2.2.2]:List Int)=[0,0,0,0])&&true)))))
def Leb(k:Nat)(s:Str):Option Bool:=
 bi (loopM (σ:=Int) (ρ:=Unit ⊕ Bool) (fun s2=>bif decide ((s2:Int)<(s.length:Int)) then(bi (getZ s s2) fun c12=>bif !(((decide (((c12.toNat:Int):Int)≥97))&&(decide (((c12.toNat:Int):Int)≤122)))||((decide ((s2:Int)>0))&&((((decide (((c12.toNat:Int):Int)≥48))&&(decide (((c12.toNat:Int):Int)≤57)))||(((c12.toNat:Int):Int)==45))||(((c12.toNat:Int):Int)==95)))) then(bi (some false) fun v=>some (.out (.inr v))) else(some (.go (wi (s2+1))))) else(some (.out (.inl ())))) k 0) fun q=>orI q fun a6=>some ((!((s:Str)==[]))&&(decide (((s.length:Int):Int)≤40)))
def Lec(c:Int):Option Bool:=
 some ((decide ((c:Int)≥48))&&(decide ((c:Int)≤57)))
def Led(s:Str):Option Bool:=
 bi (bif decide (((s.length:Int):Int)>1) then(bi (getZ s 0) fun c4=>some (((c4.toNat:Int):Int)==118)) else(some false)) fun q1=>bi (bif q1 then(bi (getZ s 1) fun c10=>bi (Lec (c10.toNat:Int)) fun y12=>some y12) else(some false)) fun q7=>some q7
def Lee(s:List Str)(v:Str):Option Int:=
 bi (rangeM (σ:=Unit) (ρ:=Int) (fun i1 x3 s2=>bif (v:Str)==x3 then(bi (some (i1:Int)) fun v=>some (.out v)) else(some (.go ()))) 0 s ()) fun q=>goI q fun a6=>some (-1)
def Lef(s:List Str)(v:Str):Option Bool:=
 bi (Lee s v) fun y1=>some (decide ((y1:Int)≥0))
def Leg(op:Str):Option Bool:=
 bi (Lef [[61,61],[33,61],[60],[60,61],[62],[62,61]] op) fun y1=>some y1
def Leh(s:Str):Option Bool:=
 bi (gd (decide ((s.length:Int)≤9223372036854775807)) (rangeI (σ:=Unit) (ρ:=Bool) (fun i1 s2=>bi (getZ s (i1:Int)) fun c13=>bi (bif decide (((c13.toNat:Int):Int)<32) then(some true) else(bi (getZ s (i1:Int)) fun c19=>some (decide (((c19.toNat:Int):Int)>126)))) fun q15=>bif q15 then(bi (some false) fun v=>some (.out v)) else(some (.go ()))) (s.length:Int) ())) fun q=>goI q fun a6=>some (decide (((s.length:Int):Int)≤100))
def Lei(k:Nat)(a:Lcv):Option Int:=
 bi (Ldw a.Kind 1 4) fun y1=>bif y1 then(some 4) else(bi (bif (a.Kind:Int)==1 then(bi (Ldw a.Number (-100000000) 100000000) fun y8=>some y8) else(some false)) fun q5=>bi (bif q5 then(some true) else(bi (bif (a.Kind:Int)==3 then(bi (Ldw a.Number 0 1) fun y18=>some y18) else(some false)) fun q15=>some q15)) fun q11=>bif q11 then(some 1) else(bif ((((a.Kind:Int) != 1)&&((a.Kind:Int) != 3))&&((a.Number:Int) != 0)) then(some 3) else(bi (bif (a.Kind:Int)==2 then(bi (Leh a.Words) fun y28=>some (!y28)) else(some false)) fun q25=>bif (q25||(((a.Kind:Int) != 2)&&(!((a.Words:Str)==[])))) then(some 3) else(bi (loopM (σ:=Int) (ρ:=Unit ⊕ Int) (fun s34=>bif decide ((s34:Int)<4) then(bi (getZ ([a.Version.1,a.Version.2.1,a.Version.2.2.1,a.Version.2.2.2]:List Int) s34) fun x44=>bi (bif (a.Kind:Int)==4 then(bi (Ldw x44 0 1000000) fun y49=>some y49) else(some false)) fun q46=>bif q46 then(bi (some 1) fun v=>some (.out (.inr v))) else(bif (((a.Kind:Int) != 4)&&((x44:Int) != 0)) then(bi (some 3) fun v=>some (.out (.inr v))) else(some (.go (wi (s34+1)))))) else(some (.out (.inl ())))) k 0) fun q=>orI q fun a38=>some 0))))
def Lej:Nat→Lcw→Option Int
 | 0,_=>none
 | k+1,c=>bi (Ldw c.Kind 1 4) fun y1=>bif y1 then(some 4) else(bi (Lea c) fun y5=>bif !y5 then(some 3) else(bi (bif (c.Kind:Int)==1 then(bi (Leb k c.Name) fun y13=>bi (bif (((!y13)||((c.Name:Str)==[116,114,117,101]))||((c.Name:Str)==[102,97,108,115,101])) then(some true) else(bi (Led c.Name) fun y19=>some y19)) fun q15=>bif q15 then(bi (some 5) fun v=>some (.inr v)) else(bi (Leg c.Op) fun y25=>bif !y25 then(bi (some 10) fun v=>some (.inr v)) else(bi (Lei k c.Value) fun y31=>bif (y31:Int) != 0 then(bi (some y31) fun v=>some (.inr v)) else(bif ((((c.Value.Kind:Int)==3)&&(!((c.Op:Str)==[61,61])))&&(!((c.Op:Str)==[33,61]))) then(bi (some 10) fun v=>some (.inr v)) else(some (.inl ())))))) else(some (.inl ())):Option (Unit ⊕ Int)) fun q=>orI q fun a11=>bi (unK d_api_Cond 11 c.Kids) fun l42=>bi (rangeM (σ:=Unit) (ρ:=Int) (fun i44 x46 s45=>bi (Lej k x46) fun y55=>bif (y55:Int) != 0 then(bi (some y55) fun v=>some (.out v)) else(some (.go ()))) 0 l42 ()) fun q=>goI q fun a49=>some 0))
def Lek(k:Nat)(c:Lcw):Option Int:=
 bi (Ldv k c) fun y1=>bif ((decide ((y1.1:Int)>100))||(decide ((y1.2:Int)>30))) then(some 2) else(bi (Lej k c) fun y5=>some y5)
def Lel(n:Int):Option Bool:=
 some ((decide ((n:Int)≥0))&&(decide ((n:Int)<345686400)))
def Lem(x:Int):Option Bool:=
 some ((x:Int) != x)
def Len(x:Int)(y:Int):Option Int:=
 bi (Lem x) fun y1=>bi (Lem y) fun y3=>bif y1 then(bif y3 then(some 0) else(some (-1))) else(bif y3 then(some 1) else(bif decide ((x:Int)<y) then(some (-1)) else(bif decide ((x:Int)>y) then(some 1) else(some 0))))
def Leo(vals:List Int):Option Int:=
 bi (rangeM (σ:=Unit) (ρ:=Int) (fun i1 x3 s2=>bif (x3:Int) != 0 then(bi (some x3) fun v=>some (.out v)) else(some (.go ()))) 0 vals ()) fun q=>goI q fun a6=>some 0
def Lep(a:Lcy)(b:Lcy):Option Int:=
 bi (Len a.At b.At) fun y1=>bi (Kyf a.Node b.Node) fun y3=>bi (Kyf a.Name b.Name) fun y5=>bi (Leo [y1,y3,y5]) fun y7=>some y7
def Leq(k:Nat)(l:List Lcy):Option Int:=
 bif decide (((l.length:Int):Int)>2000) then(some 2) else(bi (rangeM (σ:=Unit) (ρ:=Int) (fun i3 x5 s4=>bi (Lel x5.At) fun y14=>bif !y14 then(bi (some 1) fun v=>some (.out v)) else(bi (Leb k x5.Node) fun y20=>bi (bif !y20 then(some true) else(bi (Leb k x5.Name) fun y26=>some (!y26))) fun q22=>bif q22 then(bi (some 5) fun v=>some (.out v)) else(bi (Lei k x5.Value) fun y32=>bif (y32:Int) != 0 then(bi (some y32) fun v=>some (.out v)) else(bi (bif decide (((i3:Int):Int)>0) then(bi (getZ l (wi ((i3:Int) - 1))) fun x41=>bi (Lep x41 x5) fun y43=>some (decide ((y43:Int)≥0))) else(some false)) fun q38=>bif q38 then(bi (some 7) fun v=>some (.out v)) else(some (.go ())))))) 0 l ()) fun q=>goI q fun a8=>some 0)
def Ler(fresh:Int):Option Int:=
 bi (Ldw fresh 1 345686400) fun y1=>bif y1 then(some 1) else(some 0)
def Les(k:Nat)(s:Str):Option Bool:=
 bi (Leb k s) fun y1=>some (!y1)
def Let(k:Nat)(s:List Str):Option Int:=
 bi (rangeM (σ:=Unit) (ρ:=Int) (fun i1 x3 s2=>bi (Les k x3) fun y12=>bif y12 then(bi (some (i1:Int)) fun v=>some (.out v)) else(some (.go ()))) 0 s ()) fun q=>goI q fun a6=>some (-1)
def Leu(k:Nat)(s:List Str):Option Bool:=
 bi (Let k s) fun y1=>some (decide ((y1:Int)≥0))
def Lev(k:Nat)(l:List Lcy)(fresh:Int)(names:List Str):Option Int:=
 bi (Leq k l) fun y1=>bif (y1:Int) != 0 then(some y1) else(bi (Ler fresh) fun y5=>bif (y5:Int) != 0 then(some y5) else(bi (Leu k names) fun y9=>bif y9 then(some 5) else(some 0)))
def Lew(v_at:Int):Option Int:=
 bi (Lel v_at) fun y1=>bif !y1 then(some 1) else(some 0)
def Lex(l:List Lcy)(fresh:Int)(al:List Bool):Option (Ldb×(List Bool)):=
 bi (rangeF (σ:=(List Bool)×(List (Lda×(Tl Lcy)))) (fun i1 x3 s2=>bi (appT s2.1 ((mGet s2.2 (⟨x3.Node,x3.Name⟩:Lda)).getD ((1,[]):Tl Lcy)) [x3]) fun y16=>some (y16.2,(mSet s2.2 (⟨x3.Node,x3.Name⟩:Lda) y16.1))) 0 l (al,([]:List (Lda×(Tl Lcy))))) fun q4=>some ((⟨fresh,q4.2⟩:Ldb),q4.1)
def kGo(hit:Lcy→Bool)(fresh:Int)(v_at:Int):List Lcy→Lcv×Bool
 | []=>(⟨0,0,[],(0,0,0,0)⟩,false)
 | c :: r=>if hit c then(if v_at<wi (c.At+fresh) then(c.Value,true) else(⟨0,0,[],(0,0,0,0)⟩,false)) else kGo hit fresh v_at r
def Ley(v_r:Ldb)(node:Str)(name:Str)(v_at:Int):Option (Lcv×Bool):=
 gd (Nat.ble ((mGet v_r.list (⟨node,name⟩:Lda)).getD ((1,[]):Tl Lcy)).2.length 4294967296) (some (kGo (fun c=>decide (c.At≤v_at)) v_r.fresh v_at ((mGet v_r.list (⟨node,name⟩:Lda)).getD ((1,[]):Tl Lcy)).2.reverse))
def Lez(s1:List Int)(s2:List Int):Option Int:=
 bi (rangeM (σ:=Unit) (ρ:=Int) (fun i1 x4 s3=>bif decide (((i1:Int):Int)≥(s2.length:Int)) then(bi (some 1) fun v=>some (.out v)) else(bi (getZ s2 (i1:Int)) fun x17=>bi (Len x4 x17) fun y19=>bif (y19:Int) != 0 then(bi (some y19) fun v=>some (.out v)) else(some (.go ())))) 0 s1 ()) fun q=>goI q fun a7=>bif decide (((s1.length:Int):Int)<(s2.length:Int)) then(some (-1)) else(some 0)
def Lfa(a:Lcv)(b:Lcv):Option Int:=
 bi (Len a.Number b.Number) fun y1=>bi (Kyf a.Words b.Words) fun y3=>bi (Lez ([a.Version.1,a.Version.2.1,a.Version.2.2.1,a.Version.2.2.2]:List Int) ([b.Version.1,b.Version.2.1,b.Version.2.2.1,b.Version.2.2.2]:List Int)) fun y5=>bi (Leo [y1,y3,y5]) fun y7=>some y7
def Lfb(op:Str)(n:Int):Option Bool:=
 bif (op:Str)==[61,61] then(some ((n:Int)==0)) else(bif (op:Str)==[33,61] then(some ((n:Int) != 0)) else(bif (op:Str)==[60] then(some (decide ((n:Int)<0))) else(bif (op:Str)==[60,61] then(some (decide ((n:Int)≤0))) else(bif (op:Str)==[62] then(some (decide ((n:Int)>0))) else(some (decide ((n:Int)≥0)))))))
def Lfc(a:List Int)(b:List Int):Option Bool:=
 bi (Len (a.length:Int) (b.length:Int)) fun y1=>bi (Lez a b) fun y3=>bi (Leo [y1,y3]) fun y5=>some (decide ((y5:Int)<0))
def Lfd(s:List Int):Option (List Int):=
 bi (apd ([]:List Int) s) fun y1=>some y1
def Lfe(rc_posture_Record_judge:Ldb→Lcw→Str→Int→Int→Option (Ldc×Int))(v_r:Ldb)(c:Lcw)(node:Str)(v_at:Int)(n:Int)(weak:Int)(strong:Int):Option (Ldc×Int):=
 bi (unK d_api_Cond 11 c.Kids) fun l1=>bi (rangeF (σ:=Int×Ldc) (fun i3 x5 s4=>bi (rc_posture_Record_judge v_r x5 node v_at s4.1) fun y14=>bif (y14.1.is:Int)==strong then(bi (bif (s4.2.is:Int) != strong then(some true) else(bi (Lfc y14.1.proof s4.2.proof) fun y21=>some y21)) fun q17=>bif q17 then(some (y14.2,y14.1)) else(some (y14.2,s4.2))) else(bif (s4.2.is:Int)==strong then(some (y14.2,s4.2)) else(bif (((y14.1.is:Int)==2)||((s4.2.is:Int)==2)) then(some (y14.2,(⟨2,[]⟩:Ldc))) else(bi (Lfd s4.2.proof) fun y30=>bi (apd y30 y14.1.proof) fun y32=>some (y14.2,(⟨s4.2.is,y32⟩:Ldc)))))) 0 l1 (n,(⟨weak,[]⟩:Ldc))) fun q6=>some (q6.2,q6.1)
def Lff:Nat→Ldb→Lcw→Str→Int→Int→Option (Ldc×Int)
 | 0,_,_,_,_,_=>none
 | k+1,v_r,c,node,v_at,n=>bif (c.Kind:Int)==1 then(bi (Ley v_r node c.Name v_at) fun y2=>bif ((!y2.2)||((y2.1.Kind:Int) != c.Value.Kind)) then(some ((⟨2,[]⟩:Ldc),wi (n+1))) else(bi (Lfa y2.1 c.Value) fun y6=>bi (Lfb c.Op y6) fun y8=>bif y8 then(some ((⟨1,[n]⟩:Ldc),wi (n+1))) else(some ((⟨0,[n]⟩:Ldc),wi (n+1))))) else(bif (c.Kind:Int)==2 then(bi (unK d_api_Cond 11 c.Kids) fun l14=>bi (getZ l14 0) fun x16=>bi (Lff k v_r x16 node v_at n) fun y18=>bi (bif (y18.1.is:Int)==1 then(some 0) else(bif (y18.1.is:Int)==0 then(some 1) else(some y18.1.is))) fun q20=>some ((⟨q20,y18.1.proof⟩:Ldc),y18.2)) else(bif (c.Kind:Int)==3 then(bi (Lfe (Lff k) v_r c node v_at n 1 0) fun y28=>some (y28.1,y28.2)) else(bi (Lfe (Lff k) v_r c node v_at n 0 1) fun y31=>some (y31.1,y31.2))))
def Lfg(k:Nat)(c:Lcw)(l:List Lcy)(fresh:Int)(node:Str)(v_at:Int)(al:List Bool):Option (Ldc×Int×(List Bool)):=
 bi (Lek k c) fun y1=>bif (y1:Int) != 0 then(some ((⟨0,[]⟩:Ldc),y1,al)) else(bi (Lev k l fresh [node]) fun y5=>bif (y5:Int) != 0 then(some ((⟨0,[]⟩:Ldc),y5,al)) else(bi (Lew v_at) fun y9=>bif (y9:Int) != 0 then(some ((⟨0,[]⟩:Ldc),y9,al)) else(bi (Lex l fresh al) fun y13=>bi (Lff k y13.1 c node v_at 0) fun y15=>some (y15.1,0,y13.2))))
def Lfh(k:Nat)(c:Lcw)(l:List Lcy)(fresh:Int)(node:Str)(v_at:Int)(al:List Bool):Option (Int×Int×(List Bool)):=
 bi (Lfg k c l fresh node v_at al) fun y1=>some (y1.1.is,y1.2.1,y1.2.2)
def Lfi(k:Nat)(c:Lcw)(l:List Lcy)(fresh:Int)(node:Str)(v_at:Int)(al:List Bool):Option ((List Int)×Int×(List Bool)):=
 bi (Lfg k c l fresh node v_at al) fun y1=>some (y1.1.proof,y1.2.1,y1.2.2)
def Lfj(k:Nat)(s:List Int):Option (List Int):=
 bif decide (((s.length:Int):Int)<2) then(some s) else(bi (loopM (σ:=Int) (ρ:=Unit ⊕ (List Int)) (fun s4=>bif decide ((s4:Int)<(s.length:Int)) then(bi (getZ s s4) fun x14=>bi (getZ s (wi (s4 - 1))) fun x17=>bif (x14:Int)==x17 then(bi (subZ s s4 (s.length:Int)) fun z21=>bi (loopM (σ:=(List Int)×Int×Int) (ρ:=(List Int)×Int) (fun s24=>bif decide ((s24.2.2:Int)<(z21.length:Int)) then(bi (getZ z21 s24.2.2) fun x34=>bi (getZ s24.1 (((s4.toNat+s24.2.2.toNat):Nat):Int)) fun x36=>bi (getZ z21 (wi (s24.2.2 - 1))) fun x39=>bi (getZ s24.1 (((s4.toNat+(wi (s24.2.2 - 1)).toNat):Nat):Int)) fun x41=>bif (x36:Int) != x41 then(bi (getZ z21 s24.2.2) fun x45=>bi (getZ s24.1 (((s4.toNat+s24.2.2.toNat):Nat):Int)) fun x47=>bi (getZ s24.1 s24.2.1) fun x50=>some (.go (s24.1.set s24.2.1.toNat x47,wi (s24.2.1+1),wi (s24.2.2+1)))) else(some (.go (s24.1,s24.2.1,wi (s24.2.2+1))))) else(some (.out (s24.1,s24.2.1)))) k (s,s4,1)) fun q26=>bi (subZ q26.1 q26.2 (q26.1.length:Int)) fun z55=>bi (some (q26.1.take q26.2.toNat)) fun v=>some (.out (.inr v))) else(some (.go (wi (s4+1))))) else(some (.out (.inl ())))) k 1) fun q=>orI q fun a8=>some s)
def Lfk(k:Nat)(l:List Lcy)(fresh:Int)(node:Str):Option (List Int):=
 bi (rangeF (σ:=List Int) (fun i1 x3 s2=>bif (x3.Node:Str)==node then(bi (apd s2 [x3.At,wi (x3.At+fresh)]) fun y13=>some y13) else(some s2)) 0 l ([]:List Int)) fun q4=>bi (Kyj q4) fun y16=>gd (decide (y16.length=q4.length)) (bi (Lfj k y16) fun y20=>some y20)
def Lfl(k:Nat)(v_r:Ldb)(c:Lcw)(node:Str)(v_at:Int):Option Int:=
 bi (Lff k v_r c node v_at 0) fun y1=>some y1.1.is
def Lfm(k:Nat)(c:Lcw)(l:List Lcy)(fresh:Int)(node:Str)(w:Lcz)(al:List Bool):Option (Int×Int×(List Bool)):=
 bi (Lek k c) fun y1=>bif (y1:Int) != 0 then(some (0,y1,al)) else(bi (Lev k l fresh [node]) fun y5=>bif (y5:Int) != 0 then(some (0,y5,al)) else(bi (Ldw w.From 0 w.To) fun y9=>bif (y9||(decide ((w.To:Int)>345686400))) then(some (0,1,al)) else(bi (Lex l fresh al) fun y13=>bi (Lfk k l fresh node) fun y15=>bi (apd y15 [w.To]) fun y17=>bi (rangeF (σ:=Int×Int) (fun i19 x21 s20=>bif decide (((if w.To<x21 then w.To else x21):Int)≤s20.2) then(some (s20.1,s20.2)) else(bi (Lfl k y13.1 c node s20.2) fun y32=>bi (bif (y32:Int)==1 then(some (wi (s20.1+(wi ((if w.To<x21 then w.To else x21) - s20.2))))) else(some s20.1)) fun q34=>some (q34,(if w.To<x21 then w.To else x21)))) 0 y17 (0,w.From)) fun q22=>some (q22.1,0,y13.2))))
def Lfn:Nat→Lcw→Option Int
 | 0,_=>none
 | k+1,c=>bi (bif (c.Kind:Int)==1 then(some 1) else(some 0)) fun q1=>bi (unK d_api_Cond 11 c.Kids) fun l5=>bi (rangeF (σ:=Int) (fun i7 x9 s8=>bi (Lfn k x9) fun y18=>some (wi (s8+y18))) 0 l5 q1) fun q10=>some q10
def Lfo:Nat→Lcw→Option Int
 | 0,_=>none
 | k+1,c=>bi (unK d_api_Cond 11 c.Kids) fun l1=>bi (rangeF (σ:=Int) (fun i3 x5 s4=>bi (Lfo k x5) fun y14=>some (if y14>s4 then y14 else s4)) 0 l1 0) fun q6=>some (wi (q6+1))
def Lfp(n:Int)(low:Int)(high:Int):Option Bool:=
 some ((decide ((low:Int)≤n))&&(decide ((n:Int)≤high)))
def Lfq(v_k:Lcw)(x:Lcw):Option Bool:=
 some ((v_k.Kind:Int)==x.Kind)
def Lfr(s:List Lcw)(f:Lcw):Option Int:=
 bi (rangeM (σ:=Unit) (ρ:=Int) (fun i1 x3 s2=>bi (Lfq x3 f) fun y12=>bif y12 then(bi (some (i1:Int)) fun v=>some (.out v)) else(some (.go ()))) 0 s ()) fun q=>goI q fun a6=>some (-1)
def Lfs(s:List Lcw)(f:Lcw):Option Bool:=
 bi (Lfr s f) fun y1=>some (decide ((y1:Int)≥0))
def Lft(n:Int)(low:Int)(high:Int):Option Bool:=
 some ((decide ((low:Int)≤n))&&(decide ((n:Int)≤high)))
def Lfu(s:Str)(v_some:Str):Option Bool:=
 bi (Kxy s v_some) fun y1=>some ((y1:Str)==[])
def Lfv(s:Str):Option Bool:=
 bi (Lft (s.length:Int) 1 40) fun y1=>bi (bif y1 then(bi (subZ s 0 1) fun z6=>bi (Lfu z6 [97,98,99,100,101,102,103,104,105,106,107,108,109,110,111,112,113,114,115,116,117,118,119,120,121,122]) fun y8=>some y8) else(some false)) fun q3=>bi (bif q3 then(bi (Lfu s [97,98,99,100,101,102,103,104,105,106,107,108,109,110,111,112,113,114,115,116,117,118,119,120,121,122,48,49,50,51,52,53,54,55,56,57,45,95]) fun y14=>some y14) else(some false)) fun q11=>some q11
def Lfw(s:Str):Option Bool:=
 bi (Lfv s) fun y1=>bi (bif ((y1&&(!((s:Str)==[116,114,117,101])))&&(!((s:Str)==[102,97,108,115,101]))) then(bi (getZ s 0) fun c6=>bi (bif ((((c6.toNat:Int):Int)==118)&&(decide (((s.length:Int):Int)>1))) then(bi (getZ s 1) fun c11=>some (decide (((c11.toNat:Int):Int)≥48))) else(some false)) fun q8=>bi (bif q8 then(bi (getZ s 1) fun c17=>some (decide (((c17.toNat:Int):Int)≤57))) else(some false)) fun q14=>some (!q14)) else(some false)) fun q3=>some q3
def Lfx(k:Nat)(a:Lcv):Option Int:=
 bi (Lfp a.Kind 1 4) fun y1=>bif !y1 then(some 4) else(bi (bif (a.Kind:Int)==1 then(bi (Lfp a.Number (-100000000) 100000000) fun y8=>some (!y8)) else(some false)) fun q5=>bi (bif q5 then(some true) else(bi (bif (a.Kind:Int)==3 then(bi (Lfp a.Number 0 1) fun y18=>some (!y18)) else(some false)) fun q15=>some q15)) fun q11=>bif q11 then(some 1) else(bif ((((a.Kind:Int) != 1)&&((a.Kind:Int) != 3))&&((a.Number:Int) != 0)) then(some 3) else(bif ((((a.Kind:Int) != 2)&&(!((a.Words:Str)==[])))||(decide (((a.Words.length:Int):Int)>100))) then(some 3) else(bi (gd (decide ((a.Words.length:Int)≤9223372036854775807)) (rangeI (σ:=Unit) (ρ:=Int) (fun i27 s28=>bi (getZ a.Words (i27:Int)) fun c39=>bi (Lfp (wi ((c39.toNat:Int))) 32 126) fun y41=>bif !y41 then(bi (some 3) fun v=>some (.out v)) else(some (.go ()))) (a.Words.length:Int) ())) fun q=>goI q fun a32=>bi (loopM (σ:=Int) (ρ:=Unit ⊕ Int) (fun s48=>bif decide ((s48:Int)<4) then(bi (getZ ([a.Version.1,a.Version.2.1,a.Version.2.2.1,a.Version.2.2.2]:List Int) s48) fun x58=>bi (bif (a.Kind:Int)==4 then(bi (Lfp x58 0 1000000) fun y63=>some (!y63)) else(some false)) fun q60=>bif q60 then(bi (some 1) fun v=>some (.out (.inr v))) else(some (.go (wi (s48+1))))) else(some (.out (.inl ())))) k 0) fun q=>orI q fun a52=>bif (((a.Kind:Int) != 4)&&(!decide (([a.Version.1,a.Version.2.1,a.Version.2.2.1,a.Version.2.2.2]:List Int)=([0,0,0,0]:List Int)))) then(some 3) else(some 0)))))
def Lfy(k:Nat)(c:Lcw):Option Int:=
 bi (Lfp c.Kind 1 4) fun y1=>bif !y1 then(some 4) else(bi (bif (c.Kind:Int)==1 then(bi (unK d_api_Cond 11 c.Kids) fun l8=>some (decide (((l8.length:Int):Int)>0))) else(some false)) fun q5=>bi (bif q5 then(some true) else(bi (bif (c.Kind:Int)==2 then(bi (unK d_api_Cond 11 c.Kids) fun l18=>some (((l18.length:Int):Int) != 1)) else(some false)) fun q15=>some q15)) fun q11=>bi (bif q11 then(some true) else(bi (bif ((!((c.Kind:Int)==1))&&((c.Kind:Int) != 2)) then(bi (unK d_api_Cond 11 c.Kids) fun l28=>some (decide (((l28.length:Int):Int)<2))) else(some false)) fun q25=>some q25)) fun q21=>bif q21 then(some 3) else(bif ((!((c.Kind:Int)==1))&&(((!((c.Name:Str)==[]))||(!((c.Op:Str)==[])))||(!(((c.Value.Kind:Int)==0)&&(((c.Value.Number:Int)==0)&&(((c.Value.Words:Str)==[])&&(decide (([c.Value.Version.1,c.Value.Version.2.1,c.Value.Version.2.2.1,c.Value.Version.2.2.2]:List Int)=[0,0,0,0])&&true))))))) then(some 3) else(bi (bif (((c.Kind:Int)==3)||((c.Kind:Int)==4)) then(bi (unK d_api_Cond 11 c.Kids) fun l38=>bi (Lfs l38 c) fun y40=>some y40) else(some false)) fun q35=>bif q35 then(some 3) else(bif !((c.Kind:Int)==1) then(some 0) else(bi (Lfw c.Name) fun y47=>bif !y47 then(some 5) else(bi Ldk fun y51=>bi (Lef y51 c.Op) fun y53=>bif !y53 then(some 10) else(bi (Lfx k c.Value) fun y57=>bif (y57:Int) != 0 then(some y57) else(bif ((((c.Value.Kind:Int)==3)&&(!((c.Op:Str)==[61,61])))&&(!((c.Op:Str)==[33,61]))) then(some 10) else(some 0)))))))))
def Lfz:Nat→Lcw→Option Int
 | 0,_=>none
 | k+1,c=>bi (Lfy k c) fun y1=>bif (y1:Int) != 0 then(some y1) else(bi (unK d_api_Cond 11 c.Kids) fun l5=>bi (rangeM (σ:=Unit) (ρ:=Int) (fun i7 x9 s8=>bi (Lfz k x9) fun y18=>bif (y18:Int) != 0 then(bi (some y18) fun v=>some (.out v)) else(some (.go ()))) 0 l5 ()) fun q=>goI q fun a12=>some 0)
def Lga(k:Nat)(c:Lcw):Option Int:=
 bi (Lfn k c) fun y1=>bi (bif decide ((y1:Int)>100) then(some true) else(bi (Lfo k c) fun y7=>some (decide ((y7:Int)>30)))) fun q3=>bif q3 then(some 2) else(bi (Lfz k c) fun y11=>some y11)
def Lgb(v_at:Int):Option Bool:=
 bi (Lft v_at 0 345686399) fun y1=>some y1
def Lgc(a:Lcy)(b:Lcy):Option Int:=
 bi (Len a.At b.At) fun y1=>bi (Kyf a.Node b.Node) fun y3=>bi (Kyf a.Name b.Name) fun y5=>bi (Leo [y1,y3,y5]) fun y7=>some y7
def Lgd(k:Nat)(l:List Lcy):Option Int:=
 bif decide (((l.length:Int):Int)>2000) then(some 2) else(bi (rangeM (σ:=Unit) (ρ:=Int) (fun i3 x5 s4=>bi (Lgb x5.At) fun y14=>bif !y14 then(bi (some 1) fun v=>some (.out v)) else(bi (Lfv x5.Node) fun y20=>bi (bif !y20 then(some true) else(bi (Lfv x5.Name) fun y26=>some (!y26))) fun q22=>bif q22 then(bi (some 5) fun v=>some (.out v)) else(bi (Lfx k x5.Value) fun y32=>bif (y32:Int) != 0 then(bi (some y32) fun v=>some (.out v)) else(bi (bif decide (((i3:Int):Int)>0) then(bi (getZ l (wi ((i3:Int) - 1))) fun x41=>bi (Lgc x41 x5) fun y43=>some (decide ((y43:Int)≥0))) else(some false)) fun q38=>bif q38 then(bi (some 7) fun v=>some (.out v)) else(some (.go ())))))) 0 l ()) fun q=>goI q fun a8=>some 0)
def Lge(fresh:Int):Option Int:=
 bi (Lfp fresh 1 345686400) fun y1=>bif !y1 then(some 1) else(some 0)
def Lgf(s:Str):Option Int:=
 bi (Lfv s) fun y1=>bif !y1 then(some 5) else(some 0)
def Lgg(s:Str):Option Int:=
 bi (Lgf s) fun y1=>some y1
def Lgh(vals:List Int):Option Int:=
 bi (rangeM (σ:=Unit) (ρ:=Int) (fun i1 x3 s2=>bif (x3:Int) != 0 then(bi (some x3) fun v=>some (.out v)) else(some (.go ()))) 0 vals ()) fun q=>goI q fun a6=>some 0
def Lgi(v_at:Int):Option Int:=
 bi (Lgb v_at) fun y1=>bif !y1 then(some 1) else(some 0)
def Lgj(w:Lcz):Option Int:=
 bif (((decide ((w.From:Int)<0))||(decide ((w.From:Int)>w.To)))||(decide ((w.To:Int)>345686400))) then(some 1) else(some 0)
def Lgk:Nat→Lcw→Option (List Lcw)
 | 0,_=>none
 | k+1,c=>bif (c.Kind:Int)==1 then(some [c]) else(bi (unK d_api_Cond 11 c.Kids) fun l3=>bi (rangeF (σ:=List Lcw) (fun i5 x7 s6=>bi (Lgk k x7) fun y16=>bi (apd s6 y16) fun y18=>some y18) 0 l3 ([]:List Lcw)) fun q8=>some q8)
def kHit(node:Str)(name:Str)(v_at:Int)(c:Lcy):Bool:=(c.Node==node)&&((c.Name==name)&&decide (c.At≤v_at))
def Lgl(l:List Lcy)(fresh:Int)(node:Str)(name:Str)(v_at:Int):Option (Lcv×Bool):=
 gd (Nat.ble l.length 4294967296) (some (kGo (kHit node name v_at) fresh v_at l.reverse))
def Lgm(a:Lcv)(b:Lcv):Option (Int×Bool):=
 bif (a.Kind:Int) != b.Kind then(some (0,false)) else(bi (Len a.Number b.Number) fun y3=>bi (Kyf a.Words b.Words) fun y5=>bi (Lez ([a.Version.1,a.Version.2.1,a.Version.2.2.1,a.Version.2.2.2]:List Int) ([b.Version.1,b.Version.2.1,b.Version.2.2.1,b.Version.2.2.2]:List Int)) fun y7=>bi (Leo [y3,y5,y7]) fun y9=>some (y9,true))
def Lgn(c:Lcw)(l:List Lcy)(fresh:Int)(node:Str)(v_at:Int):Option Int:=
 bi (Lgl l fresh node c.Name v_at) fun y1=>bi (Lgm y1.1 c.Value) fun y3=>bif ((!y1.2)||(!y3.2)) then(some 2) else(bif ((mGet (mSet (mSet (mSet (mSet (mSet (mSet ([]:List (Str×Bool)) [61,61] ((y3.1:Int)==0)) [33,61] ((y3.1:Int) != 0)) [60] (decide ((y3.1:Int)<0))) [60,61] (decide ((y3.1:Int)≤0))) [62] (decide ((y3.1:Int)>0))) [62,61] (decide ((y3.1:Int)≥0))) c.Op).getD false) then(some 1) else(some 0))
def Lgo(k:Nat)(c:Lcw)(l:List Lcy)(fresh:Int)(node:Str)(v_at:Int):Option (List Int):=
 bi (Lgk k c) fun y1=>bi (rangeF (σ:=List Int) (fun i3 x5 s4=>bi (Lgn x5 l fresh node v_at) fun y14=>bi (apd s4 [y14]) fun y16=>some y16) 0 y1 ([]:List Int)) fun q6=>some q6
def Lgp(s:List Int)(v:Int):Option Int:=
 bi (rangeM (σ:=Unit) (ρ:=Int) (fun i1 x3 s2=>bif (v:Int)==x3 then(bi (some (i1:Int)) fun v=>some (.out v)) else(some (.go ()))) 0 s ()) fun q=>goI q fun a6=>some (-1)
def Lgq(s:List Int)(v:Int):Option Bool:=
 bi (Lgp s v) fun y1=>some (decide ((y1:Int)≥0))
def Lgr:Nat→Lcw→(List Int)→Int→Option Int
 | 0,_,_,_=>none
 | k+1,c,known,n=>bif (c.Kind:Int)==1 then(bi (getZ known n) fun x2=>some x2) else(bi (unK d_api_Cond 11 c.Kids) fun l5=>bi (rangeF (σ:=(List Int)×Int) (fun i7 x9 s8=>bi (Lgr k x9 known s8.2) fun y18=>bi (apd s8.1 [y18]) fun y20=>bi (Lfn k x9) fun y22=>some (y20,wi (s8.2+y22))) 0 l5 (([]:List Int),n)) fun q10=>bi (bif (c.Kind:Int)==2 then(bi (getZ q10.1 0) fun x28=>bi (getZ [1,0,2] x28) fun x31=>bi (some x31) fun v=>some (.inr v)) else(bif (c.Kind:Int)==4 then(some (.inl (1,0))) else(some (.inl (0,1)))):Option ((Int×Int) ⊕ Int)) fun q=>orI q fun a26=>bi (Lgq q10.1 a26.1) fun y38=>bif y38 then(some a26.1) else(bi (Lgq q10.1 2) fun y42=>bif y42 then(some 2) else(some a26.2)))
def Lgs(k:Nat)(c:Lcw)(l:List Lcy)(fresh:Int)(node:Str)(v_at:Int):Option Int:=
 bi (Lgo k c l fresh node v_at) fun y1=>bi (Lgr k c y1 0) fun y3=>some y3
def Lgt(k:Nat)(c:Lcw)(known:List Int)(v_some:List Int)(want:Int):Option Bool:=
 bi (makeZ (0:Int) (known.length:Int)) fun y1=>bi (gd (decide ((y1.length:Int)≤9223372036854775807)) (rangeG (σ:=List Int) (fun i3 s4=>bi (getZ s4 (i3:Int)) fun x15=>bi (Lgq v_some (i3:Int)) fun y18=>bif y18 then(bi (getZ known (i3:Int)) fun x21=>bi (getZ (s4.set ((i3:Int).toNat) 2) (i3:Int)) fun x23=>some ((s4.set ((i3:Int).toNat) 2).set ((i3:Int).toNat) x21)) else(some (s4.set ((i3:Int).toNat) 2))) (y1.length:Int) y1)) fun q6=>bi (Lgr k c q6 0) fun y27=>some ((y27:Int)==want)
def Lgu:Nat→(List Int)→Int→Int→Lcw→(List Int)→Int→Option (Tl Int)
 | 0,_,_,_,_,_,_=>none
 | k+1,v_some,v_from,left,x,x2,x3=>bif (left:Int)==0 then(bi (Lgt k x x2 v_some x3) fun y2=>bif y2 then(some (0,v_some)) else(some (1,[]))) else(bi (loopM (σ:=Int) (ρ:=Unit ⊕ (Tl Int)) (fun s8=>bif decide ((s8:Int)≤(wi ((x2.length:Int) - left))) then(bi (getZ x2 s8) fun x18=>bif (x18:Int)==2 then(some (.go (wi (s8+1)))) else(bi (Lfd v_some) fun y22=>bi (apd y22 [s8]) fun y24=>bi (Lgu k y24 (wi (s8+1)) (wi (left - 1)) x x2 x3) fun y26=>bi (isNilT y26) fun b28=>bif !b28 then(bi (some y26) fun v=>some (.out (.inr v))) else(some (.go (wi (s8+1)))))) else(some (.out (.inl ())))) k v_from) fun q=>orI q fun a12=>some (1,[]))
def Lgv(k:Nat)(c:Lcw)(l:List Lcy)(fresh:Int)(node:Str)(v_at:Int):Option (List Int):=
 bi (Lgo k c l fresh node v_at) fun y1=>bi (Lgr k c y1 0) fun y3=>bif (y3:Int)==2 then(some []) else(bi (loopM (σ:=Int) (ρ:=Unit ⊕ (List Int)) (fun s8=>bif decide ((s8:Int)≤(y1.length:Int)) then(bi (Lgu k [] 0 s8 c y1 y3) fun y18=>bi (isNilT y18) fun b20=>bif !b20 then(bi (some y18.2) fun v=>some (.out (.inr v))) else(some (.go (wi (s8+1))))) else(some (.out (.inl ())))) k 1) fun q=>orI q fun a12=>some [])
def Lgw(s1:List Int)(s2:List Int):Option Bool:=
 bif ((s1.length:Int):Int) != (s2.length:Int) then(some false) else(bi (rangeM (σ:=Unit) (ρ:=Bool) (fun i3 x5 s4=>bi (getZ s2 (i3:Int)) fun x14=>bif (x5:Int) != x14 then(bi (some false) fun v=>some (.out v)) else(some (.go ()))) 0 s1 ()) fun q=>goI q fun a8=>some true)
def Lgx(k:Nat)(l:List Lcy)(fresh:Int):Option (List Int):=
 bi (rangeF (σ:=List Int) (fun i1 x3 s2=>bi (apd s2 [x3.At,(if 345686400<(wi (x3.At+fresh)) then 345686400 else wi (x3.At+fresh))]) fun y12=>some y12) 0 l [0,345686400]) fun q4=>bi (Kyj q4) fun y14=>gd (decide (y14.length=q4.length)) (bi (Lfj k y14) fun y18=>some y18)
def Lgy(k:Nat)(c:Lcw)(l:List Lcy)(fresh:Int)(node:Str)(w:Lcz):Option Int:=
 bi (Lgx k l fresh) fun y1=>bi (gd (decide ((wi ((y1.length:Int) - 1))≤9223372036854775807)) (rangeG (σ:=Int) (fun i3 s4=>bi (getZ y1 (i3:Int)) fun x15=>bi (Lgs k c l fresh node x15) fun y17=>bif (y17:Int)==1 then(bi (getZ y1 (wi ((i3:Int)+1))) fun x20=>bi (getZ y1 (i3:Int)) fun x22=>some (wi (s4+(if (wi ((if w.To<x20 then w.To else x20) - (if w.From>x22 then w.From else x22)))>0 then wi ((if w.To<x20 then w.To else x20) - (if w.From>x22 then w.From else x22)) else 0)))) else(some s4)) (wi ((y1.length:Int) - 1)) 0)) fun q6=>some q6
def Lgz(k:Nat)(s:Str)(v_at:Int):Option Int:=
 bi (loopM (σ:=Int) (ρ:=Int) (fun s2=>bi (bif decide ((s2:Int)<(s.length:Int)) then(bi (getZ s s2) fun c14=>bi (Lec (c14.toNat:Int)) fun y16=>some y16) else(some false)) fun q11=>bif q11 then(some (.go (wi (s2+1)))) else(some (.out s2))) k v_at) fun q4=>some q4
def Lha(k:Nat)(s:Str)(most:Int):Option (Int×Bool):=
 bi (Kxv s [45]) fun y1=>bi (bif (((y1:Str)==[])||(decide (((y1.length:Int):Int)>most))) then(some true) else(bi (getZ y1 0) fun c7=>some ((((c7.toNat:Int):Int)==48)&&(!((s:Str)==[48]))))) fun q3=>bif q3 then(some (0,false)) else(bi (loopM (σ:=Int) (ρ:=Unit ⊕ (Int×Bool)) (fun s12=>bif decide ((s12:Int)<(y1.length:Int)) then(bi (getZ y1 s12) fun c22=>bi (bif decide (((c22.toNat:Int):Int)<48) then(some true) else(bi (getZ y1 s12) fun c28=>some (decide (((c28.toNat:Int):Int)>57)))) fun q24=>bif q24 then(bi (some (0,false)) fun v=>some (.out (.inr v))) else(some (.go (wi (s12+1))))) else(some (.out (.inl ())))) k 0) fun q=>orI q fun a16=>bi (Kyg s) fun y35=>some (y35,true))
def Lhb(k:Nat)(s:Str):Option (Int×Bool):=
 bi (Lha k s 9) fun y1=>some (y1.1,y1.2)
def Lhc(k:Nat)(t:Ldd)(s:Str):Option Ldd:=
 bi (getZ s t.v_at) fun c1=>bi (bif ((c1.toNat:Int):Int)==45 then(some (wi (t.v_at+1))) else(some t.v_at)) fun q3=>bi (Lgz k s q3) fun y7=>bi (subZ s t.v_at y7) fun z9=>bi (Lhb k z9) fun y11=>bif y11.2 then(some (⟨[118,97,108,117,101],t.v_at,y7,t.name,(⟨1,y11.1,[],(0,0,0,0)⟩:Lcv)⟩:Ldd)) else(some (⟨t.kind,t.v_at,y7,t.name,t.value⟩:Ldd))
def Lhd(k:Nat)(t:Ldd)(s:Str):Option Ldd:=
 bi (loopM (σ:=(List Int)×Int) (ρ:=(List Int) ⊕ Ldd) (fun s2=>bif decide ((s2.2:Int)<(s.length:Int)) then(bi (getZ s s2.2) fun c12=>bi (bif ((c12.toNat:Int):Int)==34 then(bi (strB s2.1) fun y18=>bi (bi (some (⟨[118,97,108,117,101],t.v_at,wi (s2.2+1),t.name,(⟨2,0,y18,(0,0,0,0)⟩:Lcv)⟩:Ldd)) fun v=>some (.out (.inr v))) fun v=>some (.inr v)) else(bif ((decide (((c12.toNat:Int):Int)<32))||(decide (((c12.toNat:Int):Int)>126))) then(bi (bi (some t) fun v=>some (.out (.inr v))) fun v=>some (.inr v)) else(bif ((c12.toNat:Int):Int)==92 then(bi (bif (wi (s2.2+1):Int)==(s.length:Int) then(some true) else(bi (getZ s (wi (s2.2+1))) fun c36=>bi (bif ((c36.toNat:Int):Int) != 34 then(bi (getZ s (wi (s2.2+1))) fun c41=>some (((c41.toNat:Int):Int) != 92)) else(some false)) fun q38=>some q38)) fun q32=>bif q32 then(bi (bi (some t) fun v=>some (.out (.inr v))) fun v=>some (.inr v)) else(bi (getZ s (wi (s2.2+1))) fun c50=>some (.inl (wi (s2.2+1),(c50.toNat:Int))))) else(some (.inl (s2.2,(c12.toNat:Int)))))):Option ((Int×Int) ⊕ (LS ((List Int)×Int) ((List Int) ⊕ Ldd)))) fun q=>orI q fun a16=>bi (apd s2.1 [a16.2]) fun y53=>some (.go (y53,wi (a16.1+1)))) else(some (.out (.inl s2.1)))) k (([]:List Int),wi (t.v_at+1))) fun q=>orI q fun a6=>some t
def Lhe(k:Nat)(l:List Str):Option ((List Int)×Bool):=
 bi (rangeM (σ:=List Int) (ρ:=(List Int)×Bool) (fun i1 x3 s2=>bi (Lhb k x3) fun y12=>bif !y12.2 then(bi (some ([],false)) fun v=>some (.out v)) else(bi (apd s2 [y12.1]) fun y18=>some (.go y18))) 0 l ([]:List Int)) fun q=>goI q fun a6=>some (a6,true)
def Lhf(k:Nat)(t:Ldd)(s:Str):Option Ldd:=
 bi (loopM (σ:=Int) (ρ:=Int) (fun s2=>bi (bif decide ((s2:Int)<(s.length:Int)) then(bi (getZ s s2) fun c14=>bi (Lec (c14.toNat:Int)) fun y16=>bi (bif y16 then(some true) else(bi (getZ s s2) fun c22=>some (((c22.toNat:Int):Int)==46))) fun q18=>some q18) else(some false)) fun q11=>bif q11 then(some (.go (wi (s2+1)))) else(some (.out s2))) k (wi (t.v_at+1))) fun q4=>bi (subZ s (wi (t.v_at+1)) q4) fun z27=>bi (Kxz z27 [46]) fun y29=>bi (Lhe k y29) fun y31=>bif ((!y31.2)||(decide (((y29.length:Int):Int)>4))) then(some (⟨t.kind,t.v_at,q4,t.name,t.value⟩:Ldd)) else(some (⟨[118,97,108,117,101],t.v_at,q4,t.name,(⟨4,0,[],(cpA (0:Int).toNat y31.1 0 0,cpA (0:Int).toNat y31.1 1 0,cpA (0:Int).toNat y31.1 2 0,cpA (0:Int).toNat y31.1 3 0)⟩:Lcv)⟩:Ldd))
def Lhg(c:Int):Option Bool:=
 bi (bif ((decide ((c:Int)≥97))&&(decide ((c:Int)≤122))) then(some true) else(bi (Lec c) fun y5=>some y5)) fun q1=>some ((q1||((c:Int)==45))||((c:Int)==95))
def Lhh(k:Nat)(t:Ldd)(s:Str):Option Ldd:=
 bi (loopM (σ:=Int) (ρ:=Int) (fun s2=>bi (bif decide ((s2:Int)<(s.length:Int)) then(bi (getZ s s2) fun c14=>bi (Lhg (c14.toNat:Int)) fun y16=>some y16) else(some false)) fun q11=>bif q11 then(some (.go (wi (s2+1)))) else(some (.out s2))) k t.v_at) fun q4=>bi (subZ s t.v_at q4) fun z21=>bif (((z21:Str)==[116,114,117,101])||((z21:Str)==[102,97,108,115,101])) then(bif (z21:Str)==[116,114,117,101] then(some (⟨[118,97,108,117,101],t.v_at,q4,z21,(⟨3,1,[],(0,0,0,0)⟩:Lcv)⟩:Ldd)) else(some (⟨[118,97,108,117,101],t.v_at,q4,z21,(⟨3,0,[],(0,0,0,0)⟩:Lcv)⟩:Ldd))) else(some (⟨[110,97,109,101],t.v_at,q4,z21,t.value⟩:Ldd))
def Lhi(k:Nat)(s:Str)(v_at:Int):Option Ldd:=
 bif (v_at:Int)==(s.length:Int) then(some (⟨[101,110,100],v_at,0,[],(⟨0,0,[],(0,0,0,0)⟩:Lcv)⟩:Ldd)) else(bi (rangeM (σ:=Unit) (ρ:=Ldd) (fun i3 x5 s4=>bi (subZ s v_at (s.length:Int)) fun z14=>bi (Kxu z14 x5) fun y16=>bif y16 then(bi (some (⟨x5,v_at,wi (v_at+(x5.length:Int)),[],(⟨0,0,[],(0,0,0,0)⟩:Lcv)⟩:Ldd)) fun v=>some (.out v)) else(some (.go ()))) 0 [[61,61],[33,61],[60,61],[62,61],[38,38],[124,124],[60],[62],[33],[40],[41]] ()) fun q=>goI q fun a8=>bi (getZ s v_at) fun c22=>bi (bi (Lec (c22.toNat:Int)) fun y26=>bi (bif y26 then(some true) else(bi (bif ((((c22.toNat:Int):Int)==45)&&(decide ((wi (v_at+1):Int)<(s.length:Int)))) then(bi (getZ s (wi (v_at+1))) fun c35=>bi (Lec (c35.toNat:Int)) fun y37=>some y37) else(some false)) fun q32=>some q32)) fun q28=>bif q28 then(bi (Lhc k (⟨[98,97,100],v_at,0,[],(⟨0,0,[],(0,0,0,0)⟩:Lcv)⟩:Ldd) s) fun y41=>some y41) else(bif ((c22.toNat:Int):Int)==34 then(bi (Lhd k (⟨[98,97,100],v_at,0,[],(⟨0,0,[],(0,0,0,0)⟩:Lcv)⟩:Ldd) s) fun y45=>some y45) else(bi (subZ s v_at (s.length:Int)) fun z48=>bi (Led z48) fun y50=>bif y50 then(bi (Lhf k (⟨[98,97,100],v_at,0,[],(⟨0,0,[],(0,0,0,0)⟩:Lcv)⟩:Ldd) s) fun y53=>some y53) else(bif ((decide (((c22.toNat:Int):Int)≥97))&&(decide (((c22.toNat:Int):Int)≤122))) then(bi (Lhh k (⟨[98,97,100],v_at,0,[],(⟨0,0,[],(0,0,0,0)⟩:Lcv)⟩:Ldd) s) fun y57=>some y57) else(some (⟨[98,97,100],v_at,0,[],(⟨0,0,[],(0,0,0,0)⟩:Lcv)⟩:Ldd)))))) fun q24=>some q24)
def Lhj(k:Nat)(p:Lde):Option Lde:=
 bi (loopM (σ:=Int) (ρ:=Int) (fun s2=>bi (bif decide ((s2:Int)<(p.s.length:Int)) then(bi (getZ p.s s2) fun c14=>bi (bif ((c14.toNat:Int):Int)==32 then(some true) else(bi (getZ p.s s2) fun c20=>some (((c20.toNat:Int):Int)==10))) fun q16=>some q16) else(some false)) fun q11=>bif q11 then(some (.go (wi (s2+1)))) else(some (.out s2))) k p.tok.v_end) fun q4=>bi (Lhi k p.s q4) fun y25=>some (⟨p.s,y25,p.bad,p.v_at⟩:Lde)
def Lhk(p:Lde):Option (Lcw×Lde):=
 bi (bif !p.bad then(some (⟨p.s,p.tok,true,p.tok.v_at⟩:Lde)) else(some p)) fun q1=>some ((⟨0,[],[],(⟨0,0,[],(0,0,0,0)⟩:Lcv),(KD.mk 0 [])⟩:Lcw),q1)
def Lhl(k:Nat)(p:Lde):Option (Lcw×Lde):=
 bi (Lhj k p) fun y1=>bi (Leg y1.tok.kind) fun y3=>bif !y3 then(some ((⟨1,p.tok.name,[61,61],(⟨3,1,[],(0,0,0,0)⟩:Lcv),(KD.mk 0 [])⟩:Lcw),y1)) else(bi (Lhj k y1) fun y7=>bif !((y7.tok.kind:Str)==[118,97,108,117,101]) then(bi (Lhk y7) fun y10=>some (y10.1,y10.2)) else(bi (Lhj k y7) fun y13=>some ((⟨1,p.tok.name,y1.tok.kind,y7.tok.value,(KD.mk 0 [])⟩:Lcw),y13)))
def Lhm(rc_posture_parser_cond:Lde→Option (Lcw×Lde)):Nat→Lde→Option (Lcw×Lde)
 | 0,_=>none
 | k+1,p=>bif (p.tok.kind:Str)==[33] then(bi (Lhj k p) fun y2=>bi (Lhm rc_posture_parser_cond k y2) fun y4=>some ((⟨2,[],[],(⟨0,0,[],(0,0,0,0)⟩:Lcv),(pk Lcx [y4.1])⟩:Lcw),y4.2)) else(bif (p.tok.kind:Str)==[40] then(bi (Lhj k p) fun y8=>bi (rc_posture_parser_cond y8) fun y10=>bif y10.2.bad then(some (y10.1,y10.2)) else(bif !((y10.2.tok.kind:Str)==[41]) then(bi (Lhk y10.2) fun y15=>some (y15.1,y15.2)) else(bi (Lhj k y10.2) fun y18=>some (y10.1,y18)))) else(bif (p.tok.kind:Str)==[110,97,109,101] then(bi (Lhl k p) fun y22=>some (y22.1,y22.2)) else(bi (Lhk p) fun y25=>some (y25.1,y25.2))))
def Lhn(kind:Int)(l:List Lcw):Option Lcw:=
 bif ((l.length:Int):Int)==1 then(bi (getZ l 0) fun x2=>some x2) else(bi (rangeF (σ:=List Lcw) (fun i5 x7 s6=>bif (x7.Kind:Int)==kind then(bi (unK d_api_Cond 11 x7.Kids) fun l17=>bi (apd s6 l17) fun y19=>some y19) else(bi (apd s6 [x7]) fun y22=>some y22)) 0 l ([]:List Lcw)) fun q8=>some (⟨kind,[],[],(⟨0,0,[],(0,0,0,0)⟩:Lcv),(pk Lcx q8)⟩:Lcw))
def Lho(rc_posture_parser_cond:Lde→Option (Lcw×Lde))(k:Nat)(p:Lde):Option (Lcw×Lde):=
 bi (Lhm rc_posture_parser_cond k p) fun y1=>bi (loopM (σ:=Lde×(List Lcw)) (ρ:=Lde×(List Lcw)) (fun s4=>bif ((!s4.1.bad)&&((s4.1.tok.kind:Str)==[38,38])) then(bi (Lhj k s4.1) fun y14=>bi (Lhm rc_posture_parser_cond k y14) fun y16=>bi (apd s4.2 [y16.1]) fun y18=>some (.go (y16.2,y18))) else(some (.out (s4.1,s4.2)))) k (y1.2,[y1.1])) fun q6=>bi (Lhn 3 q6.2) fun y21=>some (y21,q6.1)
def Lhp:Nat→Lde→Option (Lcw×Lde)
 | 0,_=>none
 | k+1,p=>bi (Lho (Lhp k) k p) fun y1=>bi (loopM (σ:=Lde×(List Lcw)) (ρ:=Lde×(List Lcw)) (fun s4=>bif ((!s4.1.bad)&&((s4.1.tok.kind:Str)==[124,124])) then(bi (Lhj k s4.1) fun y14=>bi (Lho (Lhp k) k y14) fun y16=>bi (apd s4.2 [y16.1]) fun y18=>some (.go (y16.2,y18))) else(some (.out (s4.1,s4.2)))) k (y1.2,[y1.1])) fun q6=>bi (Lhn 4 q6.2) fun y21=>some (y21,q6.1)
def Lhq(k:Nat)(text:Str):Option (Lcw×Int×Int):=
 bif decide (((text.length:Int):Int)>5000) then(some ((⟨0,[],[],(⟨0,0,[],(0,0,0,0)⟩:Lcv),(KD.mk 0 [])⟩:Lcw),0,2)) else(bi (Lhj k (⟨text,(⟨[],0,0,[],(⟨0,0,[],(0,0,0,0)⟩:Lcv)⟩:Ldd),false,0⟩:Lde)) fun y3=>bi (Lhp k y3) fun y5=>bi (bif ((!y5.2.bad)&&(!((y5.2.tok.kind:Str)==[101,110,100]))) then(bi (Lhk y5.2) fun y10=>some y10.2) else(some y5.2)) fun q7=>bif q7.bad then(some ((⟨0,[],[],(⟨0,0,[],(0,0,0,0)⟩:Lcv),(KD.mk 0 [])⟩:Lcw),q7.v_at,9)) else(bi (Lek k y5.1) fun y15=>bif (y15:Int) != 0 then(some ((⟨0,[],[],(⟨0,0,[],(0,0,0,0)⟩:Lcv),(KD.mk 0 [])⟩:Lcw),0,y15)) else(some (y5.1,0,0))))
def Lhr(k:Nat):Option Bool:=
 bi (Lhq k [97]) fun y1=>some ((((y1.2.2:Int)==0)&&((y1.1.Kind:Int)==1))&&((y1.1.Name:Str)==[97]))
def Lhs(k:Nat)(l:List Int)(al:List Bool):Option (Bool×(List Bool)):=
 bi (Ldq k (⟨l,0⟩:Lcu)) fun y1=>bi (Ldm y1.2 0 4) fun y3=>bi (Ldr y3.2 y3.1) fun y5=>bi (Lds y5.2) fun y7=>bi (Ldj y7.2 [[110,97],[110,97],[110,98],[65]]) fun y9=>bi (Ldt y9.2) fun y11=>bi (Ldu y11.2) fun y13=>bi (Lfh k y1.1 y5.1 y7.1 y9.1 y11.1 al) fun y15=>bi (Lfi k y1.1 y5.1 y7.1 y9.1 y11.1 y15.2.2) fun y17=>bi (Lfm k y1.1 y5.1 y7.1 y9.1 y13.1 y17.2.2) fun y19=>bi (Lga k y1.1) fun y21=>bi (Lgd k y5.1) fun y23=>bi (Lge y7.1) fun y25=>bi (Lgg y9.1) fun y27=>bi (Lgh [y21,y23,y25,y27]) fun y29=>bi (Lgi y11.1) fun y31=>bi (Lgh [y29,y31]) fun y33=>bi (Lgj y13.1) fun y35=>bi (Lgh [y29,y35]) fun y37=>bif ((((y15.2.1:Int) != y33)||((y17.2.1:Int) != y33))||((y19.2.1:Int) != y37)) then(some (false,y19.2.2)) else(bi (bif (y33:Int)==0 then(bi (Lgs k y1.1 y5.1 y7.1 y9.1 y11.1) fun y44=>bi (bif (y15.1:Int) != y44 then(some true) else(bi (Lgv k y1.1 y5.1 y7.1 y9.1 y11.1) fun y50=>bi (Lgw y17.1 y50) fun y52=>some (!y52))) fun q46=>some q46) else(some false)) fun q41=>bif q41 then(some (false,y19.2.2)) else(bi (bif (y37:Int) != 0 then(some true) else(bi (Lgy k y1.1 y5.1 y7.1 y9.1 y13.1) fun y61=>some ((y19.1:Int)==y61))) fun q57=>bi (bif q57 then(bi (Lhr k) fun y66=>some y66) else(some false)) fun q63=>some (q63,y19.2.2)))
end
end Go.Gk
