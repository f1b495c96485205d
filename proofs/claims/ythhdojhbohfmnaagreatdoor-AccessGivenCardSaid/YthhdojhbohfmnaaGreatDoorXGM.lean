import Derived.Test.YthhdojhbohfmnaaGreatDoorMStr9
import Derived.Test.YthhdojhbohfmnaaGreatDoorMStrI
import Derived.Test.YthhdojhbohfmnaaGreatDoorGk53
import Derived.Test.YthhdojhbohfmnaaGreatDoorGk58
import Derived.Test.YthhdojhbohfmnaaGreatDoorGk65
set_option linter.unusedVariables false
namespace Go.Gk
noncomputable section
structure Kwe where
 L:List Int
 v_at:Int
 deriving DecidableEq
structure Kwf where
 Posture:Str
 Approvers:List Str
 Need:Int
 Wait:Int
 Most:Int
 deriving DecidableEq
structure Kwg where
 At:Int
 Key:Str
 By:Str
 Kind:Int
 Node:Str
 Posture:Str
 Long:Int
 deriving DecidableEq
structure Kwh where
 Step:Int
 Why:Int
 deriving DecidableEq
structure Kwi where
 access:List Kwf
 list:List (Str×Nat)
 deriving DecidableEq
structure Kwj where
 asked:Kwg
 access:Kwf
 yes:Tl Str
 denied:Bool
 given:Bool
 v_from:Int
 to:Int
 deriving DecidableEq
structure Kwk where
 Key:Str
 By:Str
 Node:Str
 Posture:Str
 State:Int
 Yes:Int
 From:Int
 To:Int
 deriving DecidableEq
structure Kwl where
 Node:Str
 Posture:Str
 deriving DecidableEq
structure Kwm where
 v_r:List Kwf
 l:List (Str×Nat)
 deriving DecidableEq
structure Kwn where
 Request:Kwk
 asked:Int
 long:Int
 yes:Tl Str
 denied:Bool
 given:Bool
 deriving DecidableEq
structure Kwo where
 Kind:Int
 Number:Int
 Words:Str
 Version:(Int×Int×Int×Int)
 deriving DecidableEq
structure Kwp where
 kind:Str
 v_at:Int
 v_end:Int
 name:Str
 value:Kwo
 deriving DecidableEq
structure Kwq where
 s:Str
 tok:Kwp
 bad:Bool
 v_at:Int
 deriving DecidableEq
structure Kwr where
 Kind:Int
 Name:Str
 Op:Str
 Value:Kwo
 Kids:KD
abbrev Kws(x:Kwr):List D:=[.v (.int .i64 x.Kind),.v (.string ⟨x.Name.toArray⟩),.v (.string ⟨x.Op.toArray⟩),.v (.int .i64 x.Value.Kind),.v (.int .i64 x.Value.Number),.v (.string ⟨x.Value.Words.toArray⟩),.v (.int .i64 x.Value.Version.1),.v (.int .i64 x.Value.Version.2.1),.v (.int .i64 x.Value.Version.2.2.1),.v (.int .i64 x.Value.Version.2.2.2),.ro x.Kids.n x.Kids.xs]
def d_api_Cond:List D→Option Kwr
 | [c0,c1,c2,c3,c4,c5,c6,c7,c8,c9,c10]=>bi (rdI .i64 c0) fun y0=>bi (rdS c1) fun y1=>bi (rdS c2) fun y2=>bi (rdI .i64 c3) fun y3=>bi (rdI .i64 c4) fun y4=>bi (rdS c5) fun y5=>bi (rdI .i64 c6) fun y6=>bi (rdI .i64 c7) fun y7=>bi (rdI .i64 c8) fun y8=>bi (rdI .i64 c9) fun y9=>bi (rdK c10) fun y10=>some (⟨y0,y1,y2,(⟨y3,y4,y5,(y6,y7,y8,y9)⟩:Kwo),y10⟩:Kwr)
 | _=>none
theorem Law:DecOk Kws d_api_Cond:=by
 intro ds x h
 unfold d_api_Cond at h
 split at h
 ·obtain⟨y0,hy0,h⟩:=Kfv h
  obtain⟨y1,hy1,h⟩:=Kfv h
  obtain⟨y2,hy2,h⟩:=Kfv h
  obtain⟨y3,hy3,h⟩:=Kfv h
  obtain⟨y4,hy4,h⟩:=Kfv h
  obtain⟨y5,hy5,h⟩:=Kfv h
  obtain⟨y6,hy6,h⟩:=Kfv h
  obtain⟨y7,hy7,h⟩:=Kfv h
  obtain⟨y8,hy8,h⟩:=Kfv h
  obtain⟨y9,hy9,h⟩:=Kfv h
  obtain⟨y10,hy10,h⟩:=Kfv h
  obtain rfl:=Kpl hy0
  obtain rfl:=Kpm hy1
  obtain rfl:=Kpm hy2
  obtain rfl:=Kpl hy3
  obtain rfl:=Kpl hy4
  obtain rfl:=Kpm hy5
  obtain rfl:=Kpl hy6
  obtain rfl:=Kpl hy7
  obtain rfl:=Kpl hy8
  obtain rfl:=Kpl hy9
  obtain rfl:=Kpn hy10
  cases h
  rfl
 cases h
theorem Lax(x:Kwr):d_api_Cond (Kws x)=some x:=by
 cases x
 simp[Kws,d_api_Cond]
abbrev BagT:=List Bool×List (Nat×Kwj)×List (Nat×Kwn)
def Kwt(x:Int)(n:Int):Option Int:=
 bif decide ((n:Int)<1) then(some 0) else(bi (remZ x n) fun y3=>bi (bif decide ((y3:Int)<0) then(some (wi (y3+n))) else(some y3)) fun q5=>some q5)
def Kwu(s:Kwe)(n:Int):Option (Int×Kwe):=
 bif ((s.L.length:Int):Int)==0 then(bi (Kwt (wi ((wi (s.v_at+1)) * 7919)) n) fun y2=>some (y2,(⟨s.L,wi (s.v_at+1)⟩:Kwe))) else(bi (remZ (wi ((wi (s.v_at+1)) - 1)) (s.L.length:Int)) fun y5=>bi (divZ .i64 (wi ((wi (s.v_at+1)) - 1)) (s.L.length:Int)) fun y7=>bi (getZ s.L y5) fun x9=>bi (Kwt x9 1073741824) fun y11=>bi (Kwt (wi (y11+(wi (y7 * (wi (7919+y5)))))) n) fun y13=>some (y13,(⟨s.L,wi (s.v_at+1)⟩:Kwe)))
def Kwv(s:Kwe)(n:Int):Option (Bool×Kwe):=
 bi (Kwu s n) fun y1=>some ((y1.1:Int)==0,y1.2)
def Kww(s:Kwe)(low:Int)(high:Int):Option (Int×Kwe):=
 bif decide ((high:Int)<low) then(some (low,s)) else(bi (Kwu s (wi ((wi (high - low))+1))) fun y3=>some (wi (low+y3.1),y3.2))
def Kwx(s:Kwe)(l:List Int):Option (Int×Kwe):=
 bi (Kwu s (l.length:Int)) fun y1=>bi (getZ l y1.1) fun x3=>some (x3,y1.2)
def Kwy(s:Kwe)(l:List Str):Option (Str×Kwe):=
 bi (Kwu s (l.length:Int)) fun y1=>bi (getZ l y1.1) fun x3=>some (x3,y1.2)
def Kwz(s:Kwe)(low:Int)(high:Int):Option (Int×Kwe):=
 bi (Kwv s 12) fun y1=>bif y1.1 then(bi (Kwx y1.2 [wi (low - 1),wi (high+1),low,high,-1099511627776,1099511627776]) fun y4=>some (y4.1,y4.2)) else(bi (Kww y1.2 low high) fun y7=>some (y7.1,y7.2))
def Kxa(s:Kwe):Option ((List Kwf)×Kwe):=
 bi (rangeF (σ:=Kwe×(List Kwf)) (fun i1 x3 s2=>bi (Kwv s2.1 5) fun y12=>bif !y12.1 then(bi (Kwu y12.2 3) fun y15=>bi (getZ [[[97,110,110]],[[97,110,110],[98,111,98]],[[97,110,110],[98,111,98],[99,105,100]]] y15.1) fun x17=>bi (Kww y15.2 1 (if 2<(x17.length:Int) then 2 else(x17.length:Int))) fun y19=>bi (Kwx y19.2 [5,20,100]) fun y21=>bi (Kwx y21.2 [10,50,345686400]) fun y23=>bi (apd s2.2 [(⟨x3,x17,y19.1,y21.1,y23.1⟩:Kwf)]) fun y25=>some (y23.2,y25)) else(some (y12.2,s2.2))) 0 [[114,111,111,116],[116,117,120]] (s,([]:List Kwf))) fun q4=>bi (Kwv q4.1 20) fun y28=>bi (bif y28.1 then(bi (Kwy y28.2 [[],[114,111,111,116],[122,122]]) fun y33=>bi (Kwu y33.2 3) fun y35=>bi (getZ [[],[[98],[97]],[[97]]] y35.1) fun x37=>bi (Kwz y35.2 1 1) fun y39=>bi (Kwz y39.2 1 345686400) fun y41=>bi (Kwz y41.2 1 5) fun y43=>bi (apd q4.2 [(⟨y33.1,x37,y39.1,y41.1,y43.1⟩:Kwf)]) fun y45=>some (y43.2,y45)) else(some (y28.2,q4.2))) fun q30=>some (q30.2,q30.1)
def Kxb(s:Kwe)(many:Int):Option ((List Kwg)×Kwe):=
 bi (Kwu s 5) fun y1=>bi (gd (decide (many≤9223372036854775807)) (rangeG (σ:=Kwe×(List Kwg)×Int) (fun i3 s4=>bi (Kwy s4.1 [[113,49],[113,49],[113,49],[113,50]]) fun y15=>bi (Kwy y15.2 [[97,110,110],[97,110,110],[98,111,98],[99,105,100],[100,97,110]]) fun y17=>bi (Kwx y17.2 [1,1,2,2,2,3,4]) fun y19=>bi (bif (y19.1:Int)==1 then(bi (Kwy y19.2 [[110,97],[110,98]]) fun y24=>bi (Kwy y24.2 [[114,111,111,116],[114,111,111,116],[116,117,120],[122,122]]) fun y26=>bi (Kwx y26.2 [5,10,30,51]) fun y28=>some (y28.2,(⟨s4.2.2,y15.1,y17.1,y19.1,y24.1,y26.1,y28.1⟩:Kwg))) else(some (y19.2,(⟨s4.2.2,y15.1,y17.1,y19.1,[],[],0⟩:Kwg)))) fun q21=>bi (apd s4.2.1 [q21.2]) fun y31=>bi (Kwx q21.1 [1,1,3,10,40]) fun y33=>some (y33.2,y31,wi (s4.2.2+y33.1))) many (y1.2,([]:List Kwg),y1.1))) fun q6=>bi (bif decide (((q6.2.1.length:Int):Int)>0) then(bi (Kwv q6.1 20) fun y38=>some (y38.2,y38.1)) else(some (q6.1,false))) fun q35=>bi (bif q35.2 then(bi (Kwu q35.1 (q6.2.1.length:Int)) fun y44=>bi (getZ q6.2.1 y44.1) fun x46=>bi (Kwu y44.2 3) fun y49=>bif (y49.1:Int)==0 then(bi (Kwz y49.2 0 100) fun y52=>bi (Kwy y52.2 [[],[113,49]]) fun y54=>some (y54.2,(q6.2.1.set y44.1.toNat (⟨y52.1,x46.Key,x46.By,x46.Kind,x46.Node,x46.Posture,x46.Long⟩:Kwg)).set y44.1.toNat (⟨(⟨y52.1,x46.Key,x46.By,x46.Kind,x46.Node,x46.Posture,x46.Long⟩:Kwg).At,y54.1,(⟨y52.1,x46.Key,x46.By,x46.Kind,x46.Node,x46.Posture,x46.Long⟩:Kwg).By,(⟨y52.1,x46.Key,x46.By,x46.Kind,x46.Node,x46.Posture,x46.Long⟩:Kwg).Kind,(⟨y52.1,x46.Key,x46.By,x46.Kind,x46.Node,x46.Posture,x46.Long⟩:Kwg).Node,(⟨y52.1,x46.Key,x46.By,x46.Kind,x46.Node,x46.Posture,x46.Long⟩:Kwg).Posture,(⟨y52.1,x46.Key,x46.By,x46.Kind,x46.Node,x46.Posture,x46.Long⟩:Kwg).Long⟩:Kwg))) else(bif (y49.1:Int)==1 then(bi (Kwz y49.2 1 4) fun y59=>some (y59.2,q6.2.1.set y44.1.toNat (⟨x46.At,x46.Key,x46.By,y59.1,x46.Node,x46.Posture,x46.Long⟩:Kwg))) else(bi (Kwy y49.2 [[],[65],[110,97]]) fun y62=>bi (Kwz y62.2 0 10) fun y64=>some (y64.2,(q6.2.1.set y44.1.toNat (⟨x46.At,x46.Key,x46.By,x46.Kind,y62.1,x46.Posture,x46.Long⟩:Kwg)).set y44.1.toNat (⟨(⟨x46.At,x46.Key,x46.By,x46.Kind,y62.1,x46.Posture,x46.Long⟩:Kwg).At,(⟨x46.At,x46.Key,x46.By,x46.Kind,y62.1,x46.Posture,x46.Long⟩:Kwg).Key,(⟨x46.At,x46.Key,x46.By,x46.Kind,y62.1,x46.Posture,x46.Long⟩:Kwg).By,(⟨x46.At,x46.Key,x46.By,x46.Kind,y62.1,x46.Posture,x46.Long⟩:Kwg).Kind,(⟨x46.At,x46.Key,x46.By,x46.Kind,y62.1,x46.Posture,x46.Long⟩:Kwg).Node,(⟨x46.At,x46.Key,x46.By,x46.Kind,y62.1,x46.Posture,x46.Long⟩:Kwg).Posture,y64.1⟩:Kwg))))) else(some (q35.1,q6.2.1))) fun q41=>some (q41.2,q41.1)
def Kxc(s:Kwe):Option (Int×Kwe):=
 bi (Kwu s 300) fun y1=>bi (Kwu y1.2 300) fun y3=>bi (Kwx y3.2 [345686399,-1,345686400]) fun y5=>bi (Kwx y5.2 [0,5,20,40,60,80,120,y1.1,y3.1,y5.1]) fun y7=>some (y7.1,y7.2)
def Kxd(k:Nat)(s:Str):Option Bool:=
 bi (loopM (σ:=Int) (ρ:=Unit ⊕ Bool) (fun s2=>bif decide ((s2:Int)<(s.length:Int)) then(bi (getZ s s2) fun c12=>bif !(((decide (((c12.toNat:Int):Int)≥97))&&(decide (((c12.toNat:Int):Int)≤122)))||((decide ((s2:Int)>0))&&((((decide (((c12.toNat:Int):Int)≥48))&&(decide (((c12.toNat:Int):Int)≤57)))||(((c12.toNat:Int):Int)==45))||(((c12.toNat:Int):Int)==95)))) then(bi (some false) fun v=>some (.out (.inr v))) else(some (.go (wi (s2+1))))) else(some (.out (.inl ())))) k 0) fun q=>orI q fun a6=>some ((!((s:Str)==[]))&&(decide (((s.length:Int):Int)≤40)))
def Kxe(k:Nat)(l:List Str):Option Int:=
 bi (rangeM (σ:=Unit) (ρ:=Int) (fun i1 x3 s2=>bi (Kxd k x3) fun y12=>bif !y12 then(bi (some 5) fun v=>some (.out v)) else(bi (bif decide (((i1:Int):Int)>0) then(bi (getZ l (wi ((i1:Int) - 1))) fun x21=>some (Op.bytesLess x3 x21||(x3:Str)==x21)) else(some false)) fun q18=>bif q18 then(bi (some 7) fun v=>some (.out v)) else(some (.go ())))) 0 l ()) fun q=>goI q fun a6=>some 0
def Kxf(n:Int)(low:Int)(high:Int):Option Bool:=
 some ((decide ((n:Int)<low))||(decide ((n:Int)>high)))
def Kxg(k:Nat)(l:List Kwf):Option Int:=
 bif decide (((l.length:Int):Int)>100) then(some 2) else(bi (rangeM (σ:=Unit) (ρ:=Int) (fun i3 x5 s4=>bi (Kxd k x5.Posture) fun y14=>bif !y14 then(bi (some 5) fun v=>some (.out v)) else(bi (bif decide (((i3:Int):Int)>0) then(bi (getZ l (wi ((i3:Int) - 1))) fun x23=>some (Op.bytesLess x5.Posture x23.Posture||(x5.Posture:Str)==x23.Posture)) else(some false)) fun q20=>bif q20 then(bi (some 7) fun v=>some (.out v)) else(bif decide (((x5.Approvers.length:Int):Int)>200) then(bi (some 2) fun v=>some (.out v)) else(bi (Kxe k x5.Approvers) fun y34=>bif (y34:Int) != 0 then(bi (some y34) fun v=>some (.out v)) else(bi (Kxf x5.Need 1 (x5.Approvers.length:Int)) fun y40=>bi (bif y40 then(some true) else(bi (Kxf x5.Wait 1 345686400) fun y46=>some y46)) fun q42=>bi (bif q42 then(some true) else(bi (Kxf x5.Most 1 345686400) fun y52=>some y52)) fun q48=>bif q48 then(bi (some 1) fun v=>some (.out v)) else(some (.go ()))))))) 0 l ()) fun q=>goI q fun a8=>some 0)
def Kxh(n:Int):Option Bool:=
 some ((decide ((n:Int)≥0))&&(decide ((n:Int)<345686400)))
def Kxi(k:Nat)(a:Kwg):Option Int:=
 bi (Kxh a.At) fun y1=>bif !y1 then(some 1) else(bi (Kxd k a.Key) fun y5=>bi (bif !y5 then(some true) else(bi (Kxd k a.By) fun y11=>some (!y11))) fun q7=>bif q7 then(some 5) else(bi (Kxf a.Kind 1 4) fun y15=>bif y15 then(some 4) else(bif (((a.Kind:Int) != 1)&&(((!((a.Node:Str)==[]))||(!((a.Posture:Str)==[])))||((a.Long:Int) != 0))) then(some 3) else(bi (bif (a.Kind:Int)==1 then(bi (Kxd k a.Node) fun y24=>bi (bif !y24 then(some true) else(bi (Kxd k a.Posture) fun y30=>some (!y30))) fun q26=>some q26) else(some false)) fun q21=>bif q21 then(some 5) else(bi (bif (a.Kind:Int)==1 then(bi (Kxf a.Long 1 345686400) fun y38=>some y38) else(some false)) fun q35=>bif q35 then(some 1) else(some 0))))))
def Kxj(x:Int):Option Bool:=
 some ((x:Int) != x)
def Kxk(x:Int)(y:Int):Option Int:=
 bi (Kxj x) fun y1=>bi (Kxj y) fun y3=>bif y1 then(bif y3 then(some 0) else(some (-1))) else(bif y3 then(some 1) else(bif decide ((x:Int)<y) then(some (-1)) else(bif decide ((x:Int)>y) then(some 1) else(some 0))))
def Kxl(vals:List Int):Option Int:=
 bi (rangeM (σ:=Unit) (ρ:=Int) (fun i1 x3 s2=>bif (x3:Int) != 0 then(bi (some x3) fun v=>some (.out v)) else(some (.go ()))) 0 vals ()) fun q=>goI q fun a6=>some 0
def Kxm(a:Kwg)(b:Kwg):Option Int:=
 bi (Kxk a.At b.At) fun y1=>bi (Ktk a.Key b.Key) fun y3=>bi (Ktk a.By b.By) fun y5=>bi (Kxl [y1,y3,y5]) fun y7=>some y7
def Kxn(k:Nat)(l:List Kwg):Option Int:=
 bif decide (((l.length:Int):Int)>2000) then(some 2) else(bi (rangeM (σ:=Unit) (ρ:=Int) (fun i3 x5 s4=>bi (Kxi k x5) fun y14=>bif (y14:Int) != 0 then(bi (some y14) fun v=>some (.out v)) else(bi (bif decide (((i3:Int):Int)>0) then(bi (getZ l (wi ((i3:Int) - 1))) fun x23=>bi (Kxm x23 x5) fun y25=>some (decide ((y25:Int)≥0))) else(some false)) fun q20=>bif q20 then(bi (some 7) fun v=>some (.out v)) else(some (.go ())))) 0 l ()) fun q=>goI q fun a8=>some 0)
def Kxo(k:Nat)(v_r:List Kwf)(l:List Kwg):Option Int:=
 bi (Kxg k v_r) fun y1=>bif (y1:Int) != 0 then(some y1) else(bi (Kxn k l) fun y5=>some y5)
def Kxp(x:Kwf)(x2:Kwg):Option Bool:=
 some ((x.Posture:Str)==x2.Posture)
def Kxq(s:List Kwf)(f:Kwg):Option Int:=
 bi (rangeM (σ:=Unit) (ρ:=Int) (fun i1 x3 s2=>bi (Kxp x3 f) fun y12=>bif y12 then(bi (some (i1:Int)) fun v=>some (.out v)) else(some (.go ()))) 0 s ()) fun q=>goI q fun a6=>some (-1)
def Kxr(b:Kwi)(q:Nat)(a:Kwg)(al:BagT):Option (Int×Kwi×BagT):=
 bif !(q==0) then(some (6,b,al)) else(bi (Kxq b.access a) fun y3=>bif decide ((y3:Int)<0) then(some (8,b,al)) else(bi (getZ b.access y3) fun x7=>bif decide ((a.Long:Int)>x7.Most) then(some (16,b,al)) else(bi (getZ b.access y3) fun x11=>some (0,(⟨b.access,(mSet b.list a.Key (al.1.length+1))⟩:Kwi),((al.1++[false]),((al.1.length,(⟨a,x11,(1,[]),false,false,0,0⟩:Kwj)) :: al.2.1),al.2.2)))))
def Kxs(s:List Str)(v:Str):Option Int:=
 bi (rangeM (σ:=Unit) (ρ:=Int) (fun i1 x3 s2=>bif (v:Str)==x3 then(bi (some (i1:Int)) fun v=>some (.out v)) else(some (.go ()))) 0 s ()) fun q=>goI q fun a6=>some (-1)
def Kxt(s:List Str)(v:Str):Option Bool:=
 bi (Kxs s v) fun y1=>some (decide ((y1:Int)≥0))
def Kxu(q:Nat)(v_by:Str)(al:BagT):Option Bool:=
 gd (Nat.blt 0 q) (bi (hGet al.2.1 q) fun m3=>bi (Kxt m3.access.Approvers v_by) fun y5=>some y5)
def Kxv(q:Nat)(v_at:Int)(al:BagT):Option Bool:=
 bi (gd (Nat.blt 0 q) (bi (hGet al.2.1 q) fun m5=>bif !m5.denied then(gd (Nat.blt 0 q) (bi (hGet al.2.1 q) fun m10=>bif !m10.given then(gd (Nat.blt 0 q) (bi (hGet al.2.1 q) fun m15=>gd (Nat.blt 0 q) (bi (hGet al.2.1 q) fun m19=>some (decide ((v_at:Int)<(wi (m15.asked.At+m19.access.Wait))))))) else(some false))) else(some false))) fun q1=>some q1
def Kxw(q:Nat)(a:Kwg)(al:BagT):Option (Int×BagT):=
 bi (Kxv q a.At al) fun y1=>bif !y1 then(some (11,al)) else(bi (bi (Kxu q a.By al) fun y7=>bif !y7 then(some true) else(gd (Nat.blt 0 q) (bi (hGet al.2.1 q) fun m13=>some ((a.By:Str)==m13.asked.By)))) fun q5=>bif q5 then(some (16,al)) else(gd (Nat.blt 0 q) (bi (hGet al.2.1 q) fun m19=>bi (Kxt m19.yes.2 a.By) fun y21=>bif y21 then(some (6,al)) else(gd (Nat.blt 0 q) (bi (hGet al.2.1 q) fun m27=>bi (appT al.1 m27.yes [a.By]) fun y29=>gd (Nat.blt 0 q) (bi (hGet al.2.1 q) fun m33=>gd (Nat.blt 0 q) (bi (hGet (hSet al.2.1 q (⟨m33.asked,m33.access,y29.1,m33.denied,m33.given,m33.v_from,m33.to⟩:Kwj)) q) fun m37=>gd (Nat.blt 0 q) (bi (hGet (hSet al.2.1 q (⟨m33.asked,m33.access,y29.1,m33.denied,m33.given,m33.v_from,m33.to⟩:Kwj)) q) fun m41=>bi (bif ((m37.yes.2.length:Int):Int)==m41.access.Need then(gd (Nat.blt 0 q) (bi (hGet (hSet al.2.1 q (⟨m33.asked,m33.access,y29.1,m33.denied,m33.given,m33.v_from,m33.to⟩:Kwj)) q) fun m48=>gd (Nat.blt 0 q) (bi (hGet (hSet al.2.1 q (⟨m33.asked,m33.access,y29.1,m33.denied,m33.given,m33.v_from,m33.to⟩:Kwj)) q) fun m52=>gd (Nat.blt 0 q) (bi (hGet (hSet (hSet al.2.1 q (⟨m33.asked,m33.access,y29.1,m33.denied,m33.given,m33.v_from,m33.to⟩:Kwj)) q (⟨m52.asked,m52.access,m52.yes,m52.denied,true,m52.v_from,m52.to⟩:Kwj)) q) fun m56=>gd (Nat.blt 0 q) (bi (hGet (hSet (hSet (hSet al.2.1 q (⟨m33.asked,m33.access,y29.1,m33.denied,m33.given,m33.v_from,m33.to⟩:Kwj)) q (⟨m52.asked,m52.access,m52.yes,m52.denied,true,m52.v_from,m52.to⟩:Kwj)) q (⟨m56.asked,m56.access,m56.yes,m56.denied,m56.given,a.At,m56.to⟩:Kwj)) q) fun m60=>some (y29.2,(hSet (hSet (hSet (hSet al.2.1 q (⟨m33.asked,m33.access,y29.1,m33.denied,m33.given,m33.v_from,m33.to⟩:Kwj)) q (⟨m52.asked,m52.access,m52.yes,m52.denied,true,m52.v_from,m52.to⟩:Kwj)) q (⟨m56.asked,m56.access,m56.yes,m56.denied,m56.given,a.At,m56.to⟩:Kwj)) q (⟨m60.asked,m60.access,m60.yes,m60.denied,m60.given,m60.v_from,(if (wi (a.At+m48.asked.Long))<345686400 then wi (a.At+m48.asked.Long) else 345686400)⟩:Kwj)),al.2.2)))))) else(some (y29.2,(hSet al.2.1 q (⟨m33.asked,m33.access,y29.1,m33.denied,m33.given,m33.v_from,m33.to⟩:Kwj)),al.2.2))) fun q43=>some (0,q43)))))))))
def Kxx(b:Kwi)(a:Kwg)(al:BagT):Option (Int×Kwi×BagT):=
 bif (a.Kind:Int)==1 then(bi (Kxr b ((mGet b.list a.Key).getD 0) a al) fun y2=>some (y2.1,y2.2.1,y2.2.2)) else(bif (((mGet b.list a.Key).getD 0)==0) then(some (8,b,al)) else(bi (bi (Kxu ((mGet b.list a.Key).getD 0) a.By al) fun y9=>bif y9 then(some true) else(gd (Nat.blt 0 ((mGet b.list a.Key).getD 0)) (bi (hGet al.2.1 ((mGet b.list a.Key).getD 0)) fun m15=>some ((a.By:Str)==m15.asked.By)))) fun q7=>bi (bif (a.Kind:Int)==2 then(bi (Kxw ((mGet b.list a.Key).getD 0) a al) fun y21=>bi (some (y21.1,b,y21.2)) fun v=>some (.inr v)) else(bif (a.Kind:Int)==3 then(bi (Kxv ((mGet b.list a.Key).getD 0) a.At al) fun y27=>bif !y27 then(bi (some (11,b,al)) fun v=>some (.inr v)) else(bif !q7 then(bi (some (16,b,al)) fun v=>some (.inr v)) else(gd (Nat.blt 0 ((mGet b.list a.Key).getD 0)) (bi (hGet al.2.1 ((mGet b.list a.Key).getD 0)) fun m39=>some (.inl (al.1,(hSet al.2.1 ((mGet b.list a.Key).getD 0) (⟨m39.asked,m39.access,m39.yes,true,m39.given,m39.v_from,m39.to⟩:Kwj)),al.2.2)))))) else(bi (gd (Nat.blt 0 ((mGet b.list a.Key).getD 0)) (bi (hGet al.2.1 ((mGet b.list a.Key).getD 0)) fun m46=>bif !m46.given then(some true) else(gd (Nat.blt 0 ((mGet b.list a.Key).getD 0)) (bi (hGet al.2.1 ((mGet b.list a.Key).getD 0)) fun m52=>some (decide ((a.At:Int)≥m52.to)))))) fun q42=>bif q42 then(bi (some (11,b,al)) fun v=>some (.inr v)) else(bif !q7 then(bi (some (16,b,al)) fun v=>some (.inr v)) else(gd (Nat.blt 0 ((mGet b.list a.Key).getD 0)) (bi (hGet al.2.1 ((mGet b.list a.Key).getD 0)) fun m64=>some (.inl (al.1,(hSet al.2.1 ((mGet b.list a.Key).getD 0) (⟨m64.asked,m64.access,m64.yes,m64.denied,m64.given,m64.v_from,a.At⟩:Kwj)),al.2.2))))))):Option (BagT ⊕ (Int×Kwi×BagT))) fun q=>orI q fun a19=>some (0,b,a19)))
def Kxy(k:Nat)(v_r:List Kwf)(l:List Kwg)(al:BagT):Option ((List Kwh)×Int×BagT):=
 bi (Kxo k v_r l) fun y1=>bif (y1:Int) != 0 then(some ([],y1,al)) else(bi (rangeF (σ:=BagT×(List (Str×Nat))×(List Kwf)×(List Kwh)) (fun i5 x7 s6=>bi (Kxx (⟨s6.2.2.1,s6.2.1⟩:Kwi) x7 s6.1) fun y16=>bif (y16.1:Int) != 0 then(bi (apd s6.2.2.2 [(⟨(i5:Int),y16.1⟩:Kwh)]) fun y19=>some (y16.2.2,y16.2.1.list,y16.2.1.access,y19)) else(some (y16.2.2,y16.2.1.list,y16.2.1.access,s6.2.2.2))) 0 l (al,([]:List (Str×Nat)),v_r,([]:List Kwh))) fun q8=>some (q8.2.2.2,0,q8.1))
def Kxz(v_at:Int):Option Int:=
 bi (Kxh v_at) fun y1=>bif !y1 then(some 1) else(some 0)
def Kya(v_r:List Kwf)(l:List Kwg)(v_at:Int)(al:BagT):Option (Kwi×BagT):=
 bi (rangeF (σ:=BagT×(List (Str×Nat))×(List Kwf)) (fun i1 x3 s2=>bif decide ((x3.At:Int)≤v_at) then(bi (Kxx (⟨s2.2.2,s2.2.1⟩:Kwi) x3 s2.1) fun y13=>some (y13.2.2,y13.2.1.list,y13.2.1.access)) else(some (s2.1,s2.2.1,s2.2.2))) 0 l (al,([]:List (Str×Nat)),v_r)) fun q4=>some ((⟨q4.2.2,q4.2.1⟩:Kwi),q4.1)
def Kyb(q:Nat)(v_at:Int)(al:BagT):Option Int:=
 gd (Nat.blt 0 q) (bi (hGet al.2.1 q) fun m3=>bif m3.denied then(some 3) else(gd (Nat.blt 0 q) (bi (hGet al.2.1 q) fun m9=>bi (bif m9.given then(gd (Nat.blt 0 q) (bi (hGet al.2.1 q) fun m16=>some (decide ((v_at:Int)<m16.to)))) else(some false)) fun q11=>bif q11 then(some 4) else(gd (Nat.blt 0 q) (bi (hGet al.2.1 q) fun m23=>bif m23.given then(some 5) else(bi (Kxv q v_at al) fun y27=>bif y27 then(some 1) else(some 2)))))))
def Kyc(k:Nat)(v_r:List Kwf)(l:List Kwg)(v_at:Int)(al:BagT):Option ((List Kwk)×Int×BagT):=
 bi (Kxo k v_r l) fun y1=>bif (y1:Int) != 0 then(some ([],y1,al)) else(bi (Kxz v_at) fun y5=>bif (y5:Int) != 0 then(some ([],y5,al)) else(bi (Kya v_r l v_at al) fun y9=>gd ((decide (y9.1.list.length≤4294967296))&&y9.1.list.all (fun e=>decide (e.1.length≤4294967296))) (bi (rangeF (σ:=List Kwk) (fun i13 x15 s14=>gd (Nat.blt 0 ((mGet y9.1.list x15).getD 0)) (bi (hGet y9.2.2.1 ((mGet y9.1.list x15).getD 0)) fun m26=>gd (Nat.blt 0 ((mGet y9.1.list x15).getD 0)) (bi (hGet y9.2.2.1 ((mGet y9.1.list x15).getD 0)) fun m30=>gd (Nat.blt 0 ((mGet y9.1.list x15).getD 0)) (bi (hGet y9.2.2.1 ((mGet y9.1.list x15).getD 0)) fun m34=>bi (Kyb ((mGet y9.1.list x15).getD 0) v_at y9.2) fun y36=>gd (Nat.blt 0 ((mGet y9.1.list x15).getD 0)) (bi (hGet y9.2.2.1 ((mGet y9.1.list x15).getD 0)) fun m40=>gd (Nat.blt 0 ((mGet y9.1.list x15).getD 0)) (bi (hGet y9.2.2.1 ((mGet y9.1.list x15).getD 0)) fun m44=>gd (Nat.blt 0 ((mGet y9.1.list x15).getD 0)) (bi (hGet y9.2.2.1 ((mGet y9.1.list x15).getD 0)) fun m48=>bi (apd s14 [(⟨x15,m26.asked.By,m30.asked.Node,m34.asked.Posture,y36,(m40.yes.2.length:Int),m44.v_from,m48.to⟩:Kwk)]) fun y50=>some y50))))))) 0 (sortK y9.1.list) ([]:List Kwk)) fun q16=>some (q16,0,y9.2))))
def Kyd(s:List Kwl):Option (List Kwl):=
 bi (apd ([]:List Kwl) s) fun y1=>some y1
def Kye(a:Kwl)(b:Kwl):Option Int:=
 bi (Ktk a.Node b.Node) fun y1=>bi (Ktk a.Posture b.Posture) fun y3=>bi (Kxl [y1,y3]) fun y5=>some y5
def Kyf(k:Nat)(s:List Kwl):Option (List Kwl):=
 bif decide (((s.length:Int):Int)<2) then(some s) else(bi (loopM (σ:=Int) (ρ:=Unit ⊕ (List Kwl)) (fun s4=>bif decide ((s4:Int)<(s.length:Int)) then(bi (getZ s s4) fun x14=>bi (getZ s (wi (s4 - 1))) fun x17=>bif (((x14.Node:Str)==x17.Node)&&(((x14.Posture:Str)==x17.Posture)&&true)) then(bi (subZ s s4 (s.length:Int)) fun z21=>bi (loopM (σ:=(List Kwl)×Int×Int) (ρ:=(List Kwl)×Int) (fun s24=>bif decide ((s24.2.2:Int)<(z21.length:Int)) then(bi (getZ z21 s24.2.2) fun x34=>bi (getZ s24.1 (((s4.toNat+s24.2.2.toNat):Nat):Int)) fun x36=>bi (getZ z21 (wi (s24.2.2 - 1))) fun x39=>bi (getZ s24.1 (((s4.toNat+(wi (s24.2.2 - 1)).toNat):Nat):Int)) fun x41=>bif !(((x36.Node:Str)==x41.Node)&&(((x36.Posture:Str)==x41.Posture)&&true)) then(bi (getZ z21 s24.2.2) fun x45=>bi (getZ s24.1 (((s4.toNat+s24.2.2.toNat):Nat):Int)) fun x47=>bi (getZ s24.1 s24.2.1) fun x50=>some (.go (s24.1.set s24.2.1.toNat x47,wi (s24.2.1+1),wi (s24.2.2+1)))) else(some (.go (s24.1,s24.2.1,wi (s24.2.2+1))))) else(some (.out (s24.1,s24.2.1)))) k (s,s4,1)) fun q26=>bi (subZ q26.1 q26.2 (q26.1.length:Int)) fun z55=>bi (some (q26.1.take q26.2.toNat)) fun v=>some (.out (.inr v))) else(some (.go (wi (s4+1))))) else(some (.out (.inl ())))) k 1) fun q=>orI q fun a8=>some s)
def Kyg(k:Nat)(l:List Kwl):Option (List Kwl):=
 bi (Kyd l) fun y1=>sortD (fun a b=>Kye a b) y1 fun y3=>gd (decide (y3.length=y1.length)) (bi (Kyf k y3) fun y9=>some y9)
def Kyh(k:Nat)(b:Kwi)(v_at:Int)(al:BagT):Option (List Kwl):=
 rangeD (σ:=List Kwl) (fun x8 s7=>gd (Nat.blt 0 x8.2) (bi (hGet al.2.1 x8.2) fun m21=>bi (bif m21.given then(gd (Nat.blt 0 x8.2) (bi (hGet al.2.1 x8.2) fun m28=>some (decide ((m28.v_from:Int)≤v_at)))) else(some false)) fun q23=>bi (bif q23 then(gd (Nat.blt 0 x8.2) (bi (hGet al.2.1 x8.2) fun m36=>some (decide ((v_at:Int)<m36.to)))) else(some false)) fun q31=>bif q31 then(gd (Nat.blt 0 x8.2) (bi (hGet al.2.1 x8.2) fun m42=>gd (Nat.blt 0 x8.2) (bi (hGet al.2.1 x8.2) fun m46=>bi (apd s7 [(⟨m42.asked.Node,m46.asked.Posture⟩:Kwl)]) fun y48=>some y48))) else(some s7))) b.list ([]:List Kwl) fun s7=>bi (Kyg k s7) fun y15=>some y15
def Kyi(k:Nat)(v_r:List Kwf)(l:List Kwg)(v_at:Int)(al:BagT):Option ((List Kwl)×Int×BagT):=
 bi (Kxo k v_r l) fun y1=>bif (y1:Int) != 0 then(some ([],y1,al)) else(bi (Kxz v_at) fun y5=>bif (y5:Int) != 0 then(some ([],y5,al)) else(bi (Kya v_r l v_at al) fun y9=>bi (Kyh k y9.1 v_at y9.2) fun y11=>some (y11,0,y9.2)))
def Kyj(k:Nat)(s:List Int):Option (List Int):=
 bif decide (((s.length:Int):Int)<2) then(some s) else(bi (loopM (σ:=Int) (ρ:=Unit ⊕ (List Int)) (fun s4=>bif decide ((s4:Int)<(s.length:Int)) then(bi (getZ s s4) fun x14=>bi (getZ s (wi (s4 - 1))) fun x17=>bif (x14:Int)==x17 then(bi (subZ s s4 (s.length:Int)) fun z21=>bi (loopM (σ:=(List Int)×Int×Int) (ρ:=(List Int)×Int) (fun s24=>bif decide ((s24.2.2:Int)<(z21.length:Int)) then(bi (getZ z21 s24.2.2) fun x34=>bi (getZ s24.1 (((s4.toNat+s24.2.2.toNat):Nat):Int)) fun x36=>bi (getZ z21 (wi (s24.2.2 - 1))) fun x39=>bi (getZ s24.1 (((s4.toNat+(wi (s24.2.2 - 1)).toNat):Nat):Int)) fun x41=>bif (x36:Int) != x41 then(bi (getZ z21 s24.2.2) fun x45=>bi (getZ s24.1 (((s4.toNat+s24.2.2.toNat):Nat):Int)) fun x47=>bi (getZ s24.1 s24.2.1) fun x50=>some (.go (s24.1.set s24.2.1.toNat x47,wi (s24.2.1+1),wi (s24.2.2+1)))) else(some (.go (s24.1,s24.2.1,wi (s24.2.2+1))))) else(some (.out (s24.1,s24.2.1)))) k (s,s4,1)) fun q26=>bi (subZ q26.1 q26.2 (q26.1.length:Int)) fun z55=>bi (some (q26.1.take q26.2.toNat)) fun v=>some (.out (.inr v))) else(some (.go (wi (s4+1))))) else(some (.out (.inl ())))) k 1) fun q=>orI q fun a8=>some s)
def Kyk(s1:List Kwl)(s2:List Kwl):Option Bool:=
 bif ((s1.length:Int):Int) != (s2.length:Int) then(some false) else(bi (rangeM (σ:=Unit) (ρ:=Bool) (fun i3 x5 s4=>bi (getZ s2 (i3:Int)) fun x14=>bif !(((x5.Node:Str)==x14.Node)&&(((x5.Posture:Str)==x14.Posture)&&true)) then(bi (some false) fun v=>some (.out v)) else(some (.go ()))) 0 s1 ()) fun q=>goI q fun a8=>some true)
def Kyl(k:Nat)(v_r:List Kwf)(l:List Kwg)(v_at:Int)(al:BagT):Option (Int×Bool×Int×BagT):=
 bi (Kxo k v_r l) fun y1=>bif (y1:Int) != 0 then(some (0,false,y1,al)) else(bi (Kxz v_at) fun y5=>bif (y5:Int) != 0 then(some (0,false,y5,al)) else(bi (Kya v_r l 345686400 al) fun y9=>rangeD (σ:=List Int) (fun x18 s17=>gd (Nat.blt 0 x18.2) (bi (hGet y9.2.2.1 x18.2) fun m64=>bif m64.given then(gd (Nat.blt 0 x18.2) (bi (hGet y9.2.2.1 x18.2) fun m69=>gd (Nat.blt 0 x18.2) (bi (hGet y9.2.2.1 x18.2) fun m73=>bi (apd s17 [m69.v_from,m73.to]) fun y75=>some y75))) else(some s17))) y9.1.list ([]:List Int) fun s17=>bi (Kto s17) fun y25=>gd (decide (y25.length=s17.length)) (bi (Kyj k y25) fun y29=>bi (gd (decide ((y29.length:Int)≤9223372036854775807)) (rangeI (σ:=Unit) (ρ:=Int×Bool×Int×BagT) (fun i31 s32=>bi (getZ y29 (i31:Int)) fun x43=>bi (bif ((decide ((x43:Int)>v_at))&&(decide ((x43:Int)<345686400))) then(bi (Kyh k y9.1 x43 y9.2) fun y49=>bi (Kyh k y9.1 (wi (x43 - 1)) y9.2) fun y51=>bi (Kyk y49 y51) fun y53=>some (!y53)) else(some false)) fun q46=>bif q46 then(bi (some (x43,true,0,y9.2)) fun v=>some (.out v)) else(some (.go ()))) (y29.length:Int) ())) fun q=>goI q fun a36=>some (0,false,0,y9.2))))
def Kym(n:Int)(low:Int)(high:Int):Option Bool:=
 some ((decide ((low:Int)≤n))&&(decide ((n:Int)≤high)))
def Kyn(s:Str)(v_some:Str):Option Bool:=
 bi (Ktd s v_some) fun y1=>some ((y1:Str)==[])
def Kyo(s:Str):Option Bool:=
 bi (Kym (s.length:Int) 1 40) fun y1=>bi (bif y1 then(bi (subZ s 0 1) fun z6=>bi (Kyn z6 [97,98,99,100,101,102,103,104,105,106,107,108,109,110,111,112,113,114,115,116,117,118,119,120,121,122]) fun y8=>some y8) else(some false)) fun q3=>bi (bif q3 then(bi (Kyn s [97,98,99,100,101,102,103,104,105,106,107,108,109,110,111,112,113,114,115,116,117,118,119,120,121,122,48,49,50,51,52,53,54,55,56,57,45,95]) fun y14=>some y14) else(some false)) fun q11=>some q11
def Kyp(l:List Str):Option Int:=
 bi (rangeM (σ:=Unit) (ρ:=Int) (fun i1 x3 s2=>bi (Kyo x3) fun y12=>bif !y12 then(bi (some 5) fun v=>some (.out v)) else(bi (bif decide (((i1:Int):Int)>0) then(bi (getZ l (wi ((i1:Int) - 1))) fun x21=>some (Op.bytesLess x3 x21||(x3:Str)==x21)) else(some false)) fun q18=>bif q18 then(bi (some 7) fun v=>some (.out v)) else(some (.go ())))) 0 l ()) fun q=>goI q fun a6=>some 0
def Kyq(n:Int)(low:Int)(high:Int):Option Bool:=
 some ((decide ((low:Int)≤n))&&(decide ((n:Int)≤high)))
def Kyr(v_r:List Kwf):Option Int:=
 bif decide (((v_r.length:Int):Int)>100) then(some 2) else(bi (rangeM (σ:=Unit) (ρ:=Int) (fun i3 x5 s4=>bi (Kyo x5.Posture) fun y14=>bif !y14 then(bi (some 5) fun v=>some (.out v)) else(bi (bif decide (((i3:Int):Int)>0) then(bi (getZ v_r (wi ((i3:Int) - 1))) fun x23=>some (Op.bytesLess x5.Posture x23.Posture||(x5.Posture:Str)==x23.Posture)) else(some false)) fun q20=>bif q20 then(bi (some 7) fun v=>some (.out v)) else(bif decide (((x5.Approvers.length:Int):Int)>200) then(bi (some 2) fun v=>some (.out v)) else(bi (Kyp x5.Approvers) fun y34=>bif (y34:Int) != 0 then(bi (some y34) fun v=>some (.out v)) else(bi (Kyq x5.Need 1 (x5.Approvers.length:Int)) fun y40=>bi (bif !y40 then(some true) else(bi (Kyq x5.Wait 1 345686400) fun y46=>some (!y46))) fun q42=>bi (bif q42 then(some true) else(bi (Kyq x5.Most 1 345686400) fun y52=>some (!y52))) fun q48=>bif q48 then(bi (some 1) fun v=>some (.out v)) else(some (.go ()))))))) 0 v_r ()) fun q=>goI q fun a8=>some 0)
def Kys(v_at:Int):Option Bool:=
 bi (Kym v_at 0 345686399) fun y1=>some y1
def Kyt(a:Kwg)(b:Kwg):Option Int:=
 bi (Kxk a.At b.At) fun y1=>bi (Ktk a.Key b.Key) fun y3=>bi (Ktk a.By b.By) fun y5=>bi (Kxl [y1,y3,y5]) fun y7=>some y7
def Kyu(l:List Kwg):Option Int:=
 bif decide (((l.length:Int):Int)>2000) then(some 2) else(bi (rangeM (σ:=Unit) (ρ:=Int) (fun i3 x5 s4=>bi (Kys x5.At) fun y14=>bif !y14 then(bi (some 1) fun v=>some (.out v)) else(bi (Kyo x5.Key) fun y20=>bi (bif !y20 then(some true) else(bi (Kyo x5.By) fun y26=>some (!y26))) fun q22=>bif q22 then(bi (some 5) fun v=>some (.out v)) else(bi (Kyq x5.Kind 1 4) fun y32=>bif !y32 then(bi (some 4) fun v=>some (.out v)) else(bi (bif (x5.Kind:Int)==1 then(bi (Kyo x5.Node) fun y41=>bi (bif !y41 then(some true) else(bi (Kyo x5.Posture) fun y47=>some (!y47))) fun q43=>some q43) else(some false)) fun q38=>bif q38 then(bi (some 5) fun v=>some (.out v)) else(bi (bif (x5.Kind:Int)==1 then(bi (Kyq x5.Long 1 345686400) fun y57=>some (!y57)) else(some false)) fun q54=>bif q54 then(bi (some 1) fun v=>some (.out v)) else(bif ((!((x5.Kind:Int)==1))&&(((!((x5.Node:Str)==[]))||(!((x5.Posture:Str)==[])))||((x5.Long:Int) != 0))) then(bi (some 3) fun v=>some (.out v)) else(bi (bif decide (((i3:Int):Int)>0) then(bi (getZ l (wi ((i3:Int) - 1))) fun x71=>bi (Kyt x71 x5) fun y73=>some (decide ((y73:Int)≥0))) else(some false)) fun q68=>bif q68 then(bi (some 7) fun v=>some (.out v)) else(some (.go ()))))))))) 0 l ()) fun q=>goI q fun a8=>some 0)
def Kyv(vals:List Int):Option Int:=
 bi (rangeM (σ:=Unit) (ρ:=Int) (fun i1 x3 s2=>bif (x3:Int) != 0 then(bi (some x3) fun v=>some (.out v)) else(some (.go ()))) 0 vals ()) fun q=>goI q fun a6=>some 0
def Kyw(v_at:Int):Option Int:=
 bi (Kys v_at) fun y1=>bif !y1 then(some 1) else(some 0)
def Kyx(d:Kwm)(posture:Str):Option (Kwf×Bool):=
 bi (rangeM (σ:=Unit) (ρ:=Kwf×Bool) (fun i1 x3 s2=>bif (x3.Posture:Str)==posture then(bi (some (x3,true)) fun v=>some (.out v)) else(some (.go ()))) 0 d.v_r ()) fun q=>goI q fun a6=>some ((⟨[],[],0,0,0⟩:Kwf),false)
def Kyy(d:Kwm)(a:Kwg)(al:BagT):Option (Int×Kwm×BagT):=
 bif (a.Kind:Int)==1 then(bi (Kyx d a.Posture) fun y2=>bif !(((mGet d.l a.Key).getD 0)==0) then(some (6,d,al)) else(bif !y2.2 then(some (8,d,al)) else(bif decide ((a.Long:Int)>y2.1.Most) then(some (16,d,al)) else(some (0,(⟨d.v_r,(mSet d.l a.Key (al.1.length+1))⟩:Kwm),((al.1++[false]),al.2.1,((al.1.length,(⟨(⟨a.Key,a.By,a.Node,a.Posture,0,0,0,0⟩:Kwk),a.At,a.Long,(1,[]),false,false⟩:Kwn)) :: al.2.2))))))) else(bif (((mGet d.l a.Key).getD 0)==0) then(some (8,d,al)) else(gd (Nat.blt 0 ((mGet d.l a.Key).getD 0)) (bi (hGet al.2.2 ((mGet d.l a.Key).getD 0)) fun m15=>bi (Kyx d m15.Request.Posture) fun y17=>bi (Kxt y17.1.Approvers a.By) fun y19=>bi (gd (Nat.blt 0 ((mGet d.l a.Key).getD 0)) (bi (hGet al.2.2 ((mGet d.l a.Key).getD 0)) fun m25=>bif !m25.given then(gd (Nat.blt 0 ((mGet d.l a.Key).getD 0)) (bi (hGet al.2.2 ((mGet d.l a.Key).getD 0)) fun m30=>bif !m30.denied then(gd (Nat.blt 0 ((mGet d.l a.Key).getD 0)) (bi (hGet al.2.2 ((mGet d.l a.Key).getD 0)) fun m35=>some (decide ((a.At:Int)<(wi (m35.asked+y17.1.Wait)))))) else(some false))) else(some false))) fun q21=>bi (bi (bif (a.Kind:Int)==4 then(gd (Nat.blt 0 ((mGet d.l a.Key).getD 0)) (bi (hGet al.2.2 ((mGet d.l a.Key).getD 0)) fun m47=>bif !m47.given then(some true) else(gd (Nat.blt 0 ((mGet d.l a.Key).getD 0)) (bi (hGet al.2.2 ((mGet d.l a.Key).getD 0)) fun m53=>some (decide ((a.At:Int)≥m53.Request.To)))))) else(some false)) fun q42=>bif q42 then(bi (some (11,d,al)) fun v=>some (.inr v)) else(bif (((a.Kind:Int) != 4)&&(!q21)) then(bi (some (11,d,al)) fun v=>some (.inr v)) else(bi (bif (a.Kind:Int)==2 then(bif !y19 then(some true) else(gd (Nat.blt 0 ((mGet d.l a.Key).getD 0)) (bi (hGet al.2.2 ((mGet d.l a.Key).getD 0)) fun m71=>bif (a.By:Str)==m71.Request.By then(some true) else(bif (a.Kind:Int) != 2 then(bif !y19 then(gd (Nat.blt 0 ((mGet d.l a.Key).getD 0)) (bi (hGet al.2.2 ((mGet d.l a.Key).getD 0)) fun m79=>some (!((a.By:Str)==m79.Request.By)))) else(some false)) else(some false))))) else(bif (a.Kind:Int) != 2 then(bif !y19 then(gd (Nat.blt 0 ((mGet d.l a.Key).getD 0)) (bi (hGet al.2.2 ((mGet d.l a.Key).getD 0)) fun m88=>some (!((a.By:Str)==m88.Request.By)))) else(some false)) else(some false))) fun q64=>bif q64 then(bi (some (16,d,al)) fun v=>some (.inr v)) else(bif (a.Kind:Int)==4 then(gd (Nat.blt 0 ((mGet d.l a.Key).getD 0)) (bi (hGet al.2.2 ((mGet d.l a.Key).getD 0)) fun m99=>some (.inl (al.1,al.2.1,(hSet al.2.2 ((mGet d.l a.Key).getD 0) (⟨(⟨m99.Request.Key,m99.Request.By,m99.Request.Node,m99.Request.Posture,m99.Request.State,m99.Request.Yes,m99.Request.From,a.At⟩:Kwk),m99.asked,m99.long,m99.yes,m99.denied,m99.given⟩:Kwn)))))) else(bif (a.Kind:Int)==3 then(gd (Nat.blt 0 ((mGet d.l a.Key).getD 0)) (bi (hGet al.2.2 ((mGet d.l a.Key).getD 0)) fun m105=>some (.inl (al.1,al.2.1,(hSet al.2.2 ((mGet d.l a.Key).getD 0) (⟨m105.Request,m105.asked,m105.long,m105.yes,true,m105.given⟩:Kwn)))))) else(gd (Nat.blt 0 ((mGet d.l a.Key).getD 0)) (bi (hGet al.2.2 ((mGet d.l a.Key).getD 0)) fun m110=>bi (Kxt m110.yes.2 a.By) fun y112=>bif y112 then(bi (some (6,d,al)) fun v=>some (.inr v)) else(gd (Nat.blt 0 ((mGet d.l a.Key).getD 0)) (bi (hGet al.2.2 ((mGet d.l a.Key).getD 0)) fun m120=>bi (appT al.1 m120.yes [a.By]) fun y122=>gd (Nat.blt 0 ((mGet d.l a.Key).getD 0)) (bi (hGet al.2.2 ((mGet d.l a.Key).getD 0)) fun m126=>gd (Nat.blt 0 ((mGet d.l a.Key).getD 0)) (bi (hGet (hSet al.2.2 ((mGet d.l a.Key).getD 0) (⟨m126.Request,m126.asked,m126.long,y122.1,m126.denied,m126.given⟩:Kwn)) ((mGet d.l a.Key).getD 0)) fun m130=>bif ((m130.yes.2.length:Int):Int)==y17.1.Need then(gd (Nat.blt 0 ((mGet d.l a.Key).getD 0)) (bi (hGet (hSet al.2.2 ((mGet d.l a.Key).getD 0) (⟨m126.Request,m126.asked,m126.long,y122.1,m126.denied,m126.given⟩:Kwn)) ((mGet d.l a.Key).getD 0)) fun m135=>gd (Nat.blt 0 ((mGet d.l a.Key).getD 0)) (bi (hGet (hSet al.2.2 ((mGet d.l a.Key).getD 0) (⟨m126.Request,m126.asked,m126.long,y122.1,m126.denied,m126.given⟩:Kwn)) ((mGet d.l a.Key).getD 0)) fun m139=>gd (Nat.blt 0 ((mGet d.l a.Key).getD 0)) (bi (hGet (hSet (hSet al.2.2 ((mGet d.l a.Key).getD 0) (⟨m126.Request,m126.asked,m126.long,y122.1,m126.denied,m126.given⟩:Kwn)) ((mGet d.l a.Key).getD 0) (⟨m139.Request,m139.asked,m139.long,m139.yes,m139.denied,true⟩:Kwn)) ((mGet d.l a.Key).getD 0)) fun m143=>gd (Nat.blt 0 ((mGet d.l a.Key).getD 0)) (bi (hGet (hSet (hSet (hSet al.2.2 ((mGet d.l a.Key).getD 0) (⟨m126.Request,m126.asked,m126.long,y122.1,m126.denied,m126.given⟩:Kwn)) ((mGet d.l a.Key).getD 0) (⟨m139.Request,m139.asked,m139.long,m139.yes,m139.denied,true⟩:Kwn)) ((mGet d.l a.Key).getD 0) (⟨(⟨m143.Request.Key,m143.Request.By,m143.Request.Node,m143.Request.Posture,m143.Request.State,m143.Request.Yes,a.At,m143.Request.To⟩:Kwk),m143.asked,m143.long,m143.yes,m143.denied,m143.given⟩:Kwn)) ((mGet d.l a.Key).getD 0)) fun m147=>some (.inl (y122.2,al.2.1,(hSet (hSet (hSet (hSet al.2.2 ((mGet d.l a.Key).getD 0) (⟨m126.Request,m126.asked,m126.long,y122.1,m126.denied,m126.given⟩:Kwn)) ((mGet d.l a.Key).getD 0) (⟨m139.Request,m139.asked,m139.long,m139.yes,m139.denied,true⟩:Kwn)) ((mGet d.l a.Key).getD 0) (⟨(⟨m143.Request.Key,m143.Request.By,m143.Request.Node,m143.Request.Posture,m143.Request.State,m143.Request.Yes,a.At,m143.Request.To⟩:Kwk),m143.asked,m143.long,m143.yes,m143.denied,m143.given⟩:Kwn)) ((mGet d.l a.Key).getD 0) (⟨(⟨m147.Request.Key,m147.Request.By,m147.Request.Node,m147.Request.Posture,m147.Request.State,m147.Request.Yes,m147.Request.From,(if 345686400<(wi (a.At+m135.long)) then 345686400 else wi (a.At+m135.long))⟩:Kwk),m147.asked,m147.long,m147.yes,m147.denied,m147.given⟩:Kwn))))))))) else(some (.inl (y122.2,al.2.1,(hSet al.2.2 ((mGet d.l a.Key).getD 0) (⟨m126.Request,m126.asked,m126.long,y122.1,m126.denied,m126.given⟩:Kwn))))))))))))))):Option (BagT ⊕ (Int×Kwm×BagT))) fun q=>orI q fun a41=>some (0,d,a41))))
def Kyz(v_r:List Kwf)(l:List Kwg)(v_at:Int)(al:BagT):Option (Kwm×(List Kwh)×BagT):=
 bi (rangeM (σ:=BagT×(List (Str×Nat))×(List Kwf)×(List Kwh)) (ρ:=BagT×(List (Str×Nat))×(List Kwf)×(List Kwh)) (fun i1 x3 s2=>bif decide ((x3.At:Int)>v_at) then(some (.out (s2.1,s2.2.1,s2.2.2.1,s2.2.2.2))) else(bi (Kyy (⟨s2.2.2.1,s2.2.1⟩:Kwm) x3 s2.1) fun y16=>bif (y16.1:Int) != 0 then(bi (apd s2.2.2.2 [(⟨(i1:Int),y16.1⟩:Kwh)]) fun y19=>some (.go (y16.2.2,y16.2.1.l,y16.2.1.v_r,y19))) else(some (.go (y16.2.2,y16.2.1.l,y16.2.1.v_r,s2.2.2.2))))) 0 l (al,([]:List (Str×Nat)),v_r,([]:List Kwh))) fun q=>bi (lsN q fun s2=>(s2.1,s2.2.1,s2.2.2.1,s2.2.2.2)) fun q8=>some ((⟨q8.2.2.1,q8.2.1⟩:Kwm),q8.2.2.2,q8.1)
def Kza(v_r:List Kwf)(l:List Kwg)(al:BagT):Option ((List Kwh)×BagT):=
 bi (Kyz v_r l 345686400 al) fun y1=>some (y1.2.1,y1.2.2)
def Kzb(s1:List Kwh)(s2:List Kwh):Option Bool:=
 bif ((s1.length:Int):Int) != (s2.length:Int) then(some false) else(bi (rangeM (σ:=Unit) (ρ:=Bool) (fun i3 x5 s4=>bi (getZ s2 (i3:Int)) fun x14=>bif !(((x5.Step:Int)==x14.Step)&&(((x5.Why:Int)==x14.Why)&&true)) then(bi (some false) fun v=>some (.out v)) else(some (.go ()))) 0 s1 ()) fun q=>goI q fun a8=>some true)
def Kzc(a:Kwk)(b:Kwk):Option Int:=
 bi (Ktk a.Key b.Key) fun y1=>some y1
def Kzd(v_r:List Kwf)(l:List Kwg)(v_at:Int)(al:BagT):Option ((List Kwk)×BagT):=
 bi (Kyz v_r l v_at al) fun y1=>rangeD (σ:=List Kwk) (fun x10 s9=>gd (Nat.blt 0 x10.2) (bi (hGet y1.2.2.2.2 x10.2) fun m27=>bi (Kyx y1.1 m27.Request.Posture) fun y29=>gd (Nat.blt 0 x10.2) (bi (hGet y1.2.2.2.2 x10.2) fun m33=>bi (gd (Nat.blt 0 x10.2) (bi (hGet y1.2.2.2.2 x10.2) fun m39=>bi (bif m39.given then(gd (Nat.blt 0 x10.2) (bi (hGet y1.2.2.2.2 x10.2) fun m46=>some (decide ((v_at:Int)<m46.Request.To)))) else(some false)) fun q41=>bif q41 then(some 4) else(gd (Nat.blt 0 x10.2) (bi (hGet y1.2.2.2.2 x10.2) fun m53=>bif m53.given then(some 5) else(gd (Nat.blt 0 x10.2) (bi (hGet y1.2.2.2.2 x10.2) fun m59=>bif m59.denied then(some 3) else(gd (Nat.blt 0 x10.2) (bi (hGet y1.2.2.2.2 x10.2) fun m65=>bif decide ((v_at:Int)<(wi (m65.asked+y29.1.Wait))) then(some 1) else(some 2))))))))) fun q35=>bi (apd s9 [(⟨m27.Request.Key,m27.Request.By,m27.Request.Node,m27.Request.Posture,q35,(m33.yes.2.length:Int),m27.Request.From,m27.Request.To⟩:Kwk)]) fun y69=>some y69))) y1.1.l ([]:List Kwk) fun s9=>sortD (fun a b=>Kzc a b) s9 fun y17=>gd (decide (y17.length=s9.length)) (some (y17,y1.2.2))
def Kze(k:Nat)(l:List Kwg)(v_r:List Kwf)(al:BagT):Option ((List Int)×BagT):=
 bi (rangeF (σ:=BagT×(List Int)) (fun i1 x3 s2=>bi (apd s2.2 [x3.At]) fun y12=>bi (Kzd v_r l x3.At s2.1) fun y14=>bi (rangeF (σ:=List Int) (fun i16 x18 s17=>bif ((decide ((x18.To:Int)>0))&&(decide ((x18.To:Int)<345686400))) then(bi (apd s17 [x18.To]) fun y28=>some y28) else(some s17)) 0 y14.1 y12) fun q19=>some (y14.2,q19)) 0 l (al,([]:List Int))) fun q4=>bi (Kto q4.2) fun y31=>gd (decide (y31.length=q4.2.length)) (bi (Kyj k y31) fun y35=>some (y35,q4.1))
def Kzf(a:Kwl)(b:Kwl):Option Int:=
 bi (Ktk a.Node b.Node) fun y1=>bi (Ktk a.Posture b.Posture) fun y3=>bi (Kxl [y1,y3]) fun y5=>some y5
def Kzg(k:Nat)(v_r:List Kwf)(l:List Kwg)(v_at:Int)(al:BagT):Option ((List Kwl)×BagT):=
 bi (Kzd v_r l v_at al) fun y1=>bi (rangeF (σ:=List Kwl) (fun i3 x5 s4=>bif (x5.State:Int)==4 then(bi (apd s4 [(⟨x5.Node,x5.Posture⟩:Kwl)]) fun y15=>some y15) else(some s4)) 0 y1.1 ([]:List Kwl)) fun q6=>sortD (fun a b=>Kzf a b) q6 fun y18=>gd (decide (y18.length=q6.length)) (bi (Kyf k y18) fun y24=>some (y24,y1.2))
def Kzh(k:Nat)(v_r:List Kwf)(l:List Kwg)(v_at:Int)(al:BagT):Option (Int×Bool×BagT):=
 bi (Kze k l v_r al) fun y1=>bi (rangeM (σ:=BagT) (ρ:=Int×Bool×BagT) (fun i3 x5 s4=>bi (bif decide ((x5:Int)>v_at) then(bi (Kzg k v_r l x5 s4) fun y17=>bi (Kzg k v_r l (wi (x5 - 1)) y17.2) fun y19=>bi (Kyk y17.1 y19.1) fun y21=>some (y19.2,!y21)) else(some (s4,false))) fun q14=>bif q14.2 then(bi (some (x5,true,q14.1)) fun v=>some (.out v)) else(some (.go q14.1))) 0 y1.1 y1.2) fun q=>goI q fun a8=>some (0,false,a8)
def Kzi(s1:List Kwk)(s2:List Kwk):Option Bool:=
 bif ((s1.length:Int):Int) != (s2.length:Int) then(some false) else(bi (rangeM (σ:=Unit) (ρ:=Bool) (fun i3 x5 s4=>bi (getZ s2 (i3:Int)) fun x14=>bif !(((x5.Key:Str)==x14.Key)&&(((x5.By:Str)==x14.By)&&(((x5.Node:Str)==x14.Node)&&(((x5.Posture:Str)==x14.Posture)&&(((x5.State:Int)==x14.State)&&(((x5.Yes:Int)==x14.Yes)&&(((x5.From:Int)==x14.From)&&(((x5.To:Int)==x14.To)&&true)))))))) then(bi (some false) fun v=>some (.out v)) else(some (.go ()))) 0 s1 ()) fun q=>goI q fun a8=>some true)
def Kzj(s:Kwe):Option ((List Kwl)×Kwe):=
 bi (rangeF (σ:=Kwe×(List Kwl)) (fun i1 x3 s2=>bi (rangeF (σ:=Kwe×(List Kwl)) (fun i12 x14 s13=>bi (Kwv s13.1 3) fun y23=>bif y23.1 then(bi (apd s13.2 [(⟨x3,x14⟩:Kwl)]) fun y26=>some (y23.2,y26)) else(some (y23.2,s13.2))) 0 [[114,111,111,116],[115,97,102,101],[116,117,120]] (s2.1,s2.2)) fun q15=>some (q15.1,q15.2)) 0 [[110,97],[110,98],[110,99]] (s,([]:List Kwl))) fun q4=>bi (Kwv q4.1 20) fun y29=>bi (bif y29.1 then(bi (Kwy y29.2 [[],[110,97],[122,122]]) fun y34=>bi (Kwy y34.2 [[],[116,117,120]]) fun y36=>bi (apd q4.2 [(⟨y34.1,y36.1⟩:Kwl)]) fun y38=>some (y36.2,y38)) else(some (y29.2,q4.2))) fun q31=>some (q31.2,q31.1)
def Kzk(k:Nat)(a:List Kwl)(b:List Kwl):Option ((List Kwl)×Int):=
 bi (loopM (σ:=Int) (ρ:=Unit ⊕ ((List Kwl)×Int)) (fun s2=>bif decide ((s2:Int)<2) then(bi (getZ ([a,b]:List (List Kwl)) s2) fun x12=>bif decide (((x12.length:Int):Int)>2000) then(bi (some ([],2)) fun v=>some (.out (.inr v))) else(bi (rangeM (σ:=Unit) (ρ:=LS Int (Unit ⊕ ((List Kwl)×Int))) (fun i18 x20 s19=>bi (Kxd k x20.Node) fun y29=>bi (bif !y29 then(some true) else(bi (Kxd k x20.Posture) fun y35=>some (!y35))) fun q31=>bif q31 then(bi (bi (some ([],5)) fun v=>some (.out (.inr v))) fun v=>some (.out v)) else(bi (bif decide (((i18:Int):Int)>0) then(bi (getZ x12 (wi ((i18:Int) - 1))) fun x46=>bi (Kye x46 x20) fun y48=>some (decide ((y48:Int)≥0))) else(some false)) fun q43=>bif q43 then(bi (bi (some ([],7)) fun v=>some (.out (.inr v))) fun v=>some (.out v)) else(some (.go ())))) 0 x12 ()) fun q=>goI q fun a23=>some (.go (wi (s2+1))))) else(some (.out (.inl ())))) k 0) fun q=>orI q fun a6=>bi (Kyd a) fun y58=>bi (apd y58 b) fun y60=>bi (Kyg k y60) fun y62=>bif decide (((y62.length:Int):Int)>2000) then(some ([],2)) else(some (y62,0))
def Kzl(l:List Kwl):Option Int:=
 bif decide (((l.length:Int):Int)>2000) then(some 2) else(bi (rangeM (σ:=Unit) (ρ:=Int) (fun i3 x5 s4=>bi (Kyo x5.Node) fun y14=>bi (bif !y14 then(some true) else(bi (Kyo x5.Posture) fun y20=>some (!y20))) fun q16=>bif q16 then(bi (some 5) fun v=>some (.out v)) else(bi (bif decide (((i3:Int):Int)>0) then(bi (getZ l (wi ((i3:Int) - 1))) fun x29=>bi (Kzf x29 x5) fun y31=>some (decide ((y31:Int)≥0))) else(some false)) fun q26=>bif q26 then(bi (some 7) fun v=>some (.out v)) else(some (.go ())))) 0 l ()) fun q=>goI q fun a8=>some 0)
def Kzm(c:Int):Option Bool:=
 some ((decide ((c:Int)≥48))&&(decide ((c:Int)≤57)))
def Kzn(k:Nat)(s:Str)(v_at:Int):Option Int:=
 bi (loopM (σ:=Int) (ρ:=Int) (fun s2=>bi (bif decide ((s2:Int)<(s.length:Int)) then(bi (getZ s s2) fun c14=>bi (Kzm (c14.toNat:Int)) fun y16=>some y16) else(some false)) fun q11=>bif q11 then(some (.go (wi (s2+1)))) else(some (.out s2))) k v_at) fun q4=>some q4
def Kzo(k:Nat)(s:Str)(most:Int):Option (Int×Bool):=
 bi (Kta s [45]) fun y1=>bi (bif (((y1:Str)==[])||(decide (((y1.length:Int):Int)>most))) then(some true) else(bi (getZ y1 0) fun c7=>some ((((c7.toNat:Int):Int)==48)&&(!((s:Str)==[48]))))) fun q3=>bif q3 then(some (0,false)) else(bi (loopM (σ:=Int) (ρ:=Unit ⊕ (Int×Bool)) (fun s12=>bif decide ((s12:Int)<(y1.length:Int)) then(bi (getZ y1 s12) fun c22=>bi (bif decide (((c22.toNat:Int):Int)<48) then(some true) else(bi (getZ y1 s12) fun c28=>some (decide (((c28.toNat:Int):Int)>57)))) fun q24=>bif q24 then(bi (some (0,false)) fun v=>some (.out (.inr v))) else(some (.go (wi (s12+1))))) else(some (.out (.inl ())))) k 0) fun q=>orI q fun a16=>bi (Ktl s) fun y35=>some (y35,true))
def Kzp(k:Nat)(s:Str):Option (Int×Bool):=
 bi (Kzo k s 9) fun y1=>some (y1.1,y1.2)
def Kzq(k:Nat)(t:Kwp)(s:Str):Option Kwp:=
 bi (getZ s t.v_at) fun c1=>bi (bif ((c1.toNat:Int):Int)==45 then(some (wi (t.v_at+1))) else(some t.v_at)) fun q3=>bi (Kzn k s q3) fun y7=>bi (subZ s t.v_at y7) fun z9=>bi (Kzp k z9) fun y11=>bif y11.2 then(some (⟨[118,97,108,117,101],t.v_at,y7,t.name,(⟨1,y11.1,[],(0,0,0,0)⟩:Kwo)⟩:Kwp)) else(some (⟨t.kind,t.v_at,y7,t.name,t.value⟩:Kwp))
def Kzr(k:Nat)(t:Kwp)(s:Str):Option Kwp:=
 bi (loopM (σ:=(List Int)×Int) (ρ:=(List Int) ⊕ Kwp) (fun s2=>bif decide ((s2.2:Int)<(s.length:Int)) then(bi (getZ s s2.2) fun c12=>bi (bif ((c12.toNat:Int):Int)==34 then(bi (strB s2.1) fun y18=>bi (bi (some (⟨[118,97,108,117,101],t.v_at,wi (s2.2+1),t.name,(⟨2,0,y18,(0,0,0,0)⟩:Kwo)⟩:Kwp)) fun v=>some (.out (.inr v))) fun v=>some (.inr v)) else(bif ((decide (((c12.toNat:Int):Int)<32))||(decide (((c12.toNat:Int):Int)>126))) then(bi (bi (some t) fun v=>some (.out (.inr v))) fun v=>some (.inr v)) else(bif ((c12.toNat:Int):Int)==92 then(bi (bif (wi (s2.2+1):Int)==(s.length:Int) then(some true) else(bi (getZ s (wi (s2.2+1))) fun c36=>bi (bif ((c36.toNat:Int):Int) != 34 then(bi (getZ s (wi (s2.2+1))) fun c41=>some (((c41.toNat:Int):Int) != 92)) else(some false)) fun q38=>some q38)) fun q32=>bif q32 then(bi (bi (some t) fun v=>some (.out (.inr v))) fun v=>some (.inr v)) else(bi (getZ s (wi (s2.2+1))) fun c50=>some (.inl (wi (s2.2+1),(c50.toNat:Int))))) else(some (.inl (s2.2,(c12.toNat:Int)))))):Option ((Int×Int) ⊕ (LS ((List Int)×Int) ((List Int) ⊕ Kwp)))) fun q=>orI q fun a16=>bi (apd s2.1 [a16.2]) fun y53=>some (.go (y53,wi (a16.1+1)))) else(some (.out (.inl s2.1)))) k (([]:List Int),wi (t.v_at+1))) fun q=>orI q fun a6=>some t
def Kzs(s:Str):Option Bool:=
 bi (bif decide (((s.length:Int):Int)>1) then(bi (getZ s 0) fun c4=>some (((c4.toNat:Int):Int)==118)) else(some false)) fun q1=>bi (bif q1 then(bi (getZ s 1) fun c10=>bi (Kzm (c10.toNat:Int)) fun y12=>some y12) else(some false)) fun q7=>some q7
def Kzt(k:Nat)(l:List Str):Option ((List Int)×Bool):=
 bi (rangeM (σ:=List Int) (ρ:=(List Int)×Bool) (fun i1 x3 s2=>bi (Kzp k x3) fun y12=>bif !y12.2 then(bi (some ([],false)) fun v=>some (.out v)) else(bi (apd s2 [y12.1]) fun y18=>some (.go y18))) 0 l ([]:List Int)) fun q=>goI q fun a6=>some (a6,true)
def Kzu(k:Nat)(t:Kwp)(s:Str):Option Kwp:=
 bi (loopM (σ:=Int) (ρ:=Int) (fun s2=>bi (bif decide ((s2:Int)<(s.length:Int)) then(bi (getZ s s2) fun c14=>bi (Kzm (c14.toNat:Int)) fun y16=>bi (bif y16 then(some true) else(bi (getZ s s2) fun c22=>some (((c22.toNat:Int):Int)==46))) fun q18=>some q18) else(some false)) fun q11=>bif q11 then(some (.go (wi (s2+1)))) else(some (.out s2))) k (wi (t.v_at+1))) fun q4=>bi (subZ s (wi (t.v_at+1)) q4) fun z27=>bi (Kte z27 [46]) fun y29=>bi (Kzt k y29) fun y31=>bif ((!y31.2)||(decide (((y29.length:Int):Int)>4))) then(some (⟨t.kind,t.v_at,q4,t.name,t.value⟩:Kwp)) else(some (⟨[118,97,108,117,101],t.v_at,q4,t.name,(⟨4,0,[],(cpA (0:Int).toNat y31.1 0 0,cpA (0:Int).toNat y31.1 1 0,cpA (0:Int).toNat y31.1 2 0,cpA (0:Int).toNat y31.1 3 0)⟩:Kwo)⟩:Kwp))
def Kzv(c:Int):Option Bool:=
 bi (bif ((decide ((c:Int)≥97))&&(decide ((c:Int)≤122))) then(some true) else(bi (Kzm c) fun y5=>some y5)) fun q1=>some ((q1||((c:Int)==45))||((c:Int)==95))
def Kzw(k:Nat)(t:Kwp)(s:Str):Option Kwp:=
 bi (loopM (σ:=Int) (ρ:=Int) (fun s2=>bi (bif decide ((s2:Int)<(s.length:Int)) then(bi (getZ s s2) fun c14=>bi (Kzv (c14.toNat:Int)) fun y16=>some y16) else(some false)) fun q11=>bif q11 then(some (.go (wi (s2+1)))) else(some (.out s2))) k t.v_at) fun q4=>bi (subZ s t.v_at q4) fun z21=>bif (((z21:Str)==[116,114,117,101])||((z21:Str)==[102,97,108,115,101])) then(bif (z21:Str)==[116,114,117,101] then(some (⟨[118,97,108,117,101],t.v_at,q4,z21,(⟨3,1,[],(0,0,0,0)⟩:Kwo)⟩:Kwp)) else(some (⟨[118,97,108,117,101],t.v_at,q4,z21,(⟨3,0,[],(0,0,0,0)⟩:Kwo)⟩:Kwp))) else(some (⟨[110,97,109,101],t.v_at,q4,z21,t.value⟩:Kwp))
def Kzx(k:Nat)(s:Str)(v_at:Int):Option Kwp:=
 bif (v_at:Int)==(s.length:Int) then(some (⟨[101,110,100],v_at,0,[],(⟨0,0,[],(0,0,0,0)⟩:Kwo)⟩:Kwp)) else(bi (rangeM (σ:=Unit) (ρ:=Kwp) (fun i3 x5 s4=>bi (subZ s v_at (s.length:Int)) fun z14=>bi (Ksz z14 x5) fun y16=>bif y16 then(bi (some (⟨x5,v_at,wi (v_at+(x5.length:Int)),[],(⟨0,0,[],(0,0,0,0)⟩:Kwo)⟩:Kwp)) fun v=>some (.out v)) else(some (.go ()))) 0 [[61,61],[33,61],[60,61],[62,61],[38,38],[124,124],[60],[62],[33],[40],[41]] ()) fun q=>goI q fun a8=>bi (getZ s v_at) fun c22=>bi (bi (Kzm (c22.toNat:Int)) fun y26=>bi (bif y26 then(some true) else(bi (bif ((((c22.toNat:Int):Int)==45)&&(decide ((wi (v_at+1):Int)<(s.length:Int)))) then(bi (getZ s (wi (v_at+1))) fun c35=>bi (Kzm (c35.toNat:Int)) fun y37=>some y37) else(some false)) fun q32=>some q32)) fun q28=>bif q28 then(bi (Kzq k (⟨[98,97,100],v_at,0,[],(⟨0,0,[],(0,0,0,0)⟩:Kwo)⟩:Kwp) s) fun y41=>some y41) else(bif ((c22.toNat:Int):Int)==34 then(bi (Kzr k (⟨[98,97,100],v_at,0,[],(⟨0,0,[],(0,0,0,0)⟩:Kwo)⟩:Kwp) s) fun y45=>some y45) else(bi (subZ s v_at (s.length:Int)) fun z48=>bi (Kzs z48) fun y50=>bif y50 then(bi (Kzu k (⟨[98,97,100],v_at,0,[],(⟨0,0,[],(0,0,0,0)⟩:Kwo)⟩:Kwp) s) fun y53=>some y53) else(bif ((decide (((c22.toNat:Int):Int)≥97))&&(decide (((c22.toNat:Int):Int)≤122))) then(bi (Kzw k (⟨[98,97,100],v_at,0,[],(⟨0,0,[],(0,0,0,0)⟩:Kwo)⟩:Kwp) s) fun y57=>some y57) else(some (⟨[98,97,100],v_at,0,[],(⟨0,0,[],(0,0,0,0)⟩:Kwo)⟩:Kwp)))))) fun q24=>some q24)
def Kzy(k:Nat)(p:Kwq):Option Kwq:=
 bi (loopM (σ:=Int) (ρ:=Int) (fun s2=>bi (bif decide ((s2:Int)<(p.s.length:Int)) then(bi (getZ p.s s2) fun c14=>bi (bif ((c14.toNat:Int):Int)==32 then(some true) else(bi (getZ p.s s2) fun c20=>some (((c20.toNat:Int):Int)==10))) fun q16=>some q16) else(some false)) fun q11=>bif q11 then(some (.go (wi (s2+1)))) else(some (.out s2))) k p.tok.v_end) fun q4=>bi (Kzx k p.s q4) fun y25=>some (⟨p.s,y25,p.bad,p.v_at⟩:Kwq)
def Kzz(p:Kwq):Option (Kwr×Kwq):=
 bi (bif !p.bad then(some (⟨p.s,p.tok,true,p.tok.v_at⟩:Kwq)) else(some p)) fun q1=>some ((⟨0,[],[],(⟨0,0,[],(0,0,0,0)⟩:Kwo),(KD.mk 0 [])⟩:Kwr),q1)
def Laa(op:Str):Option Bool:=
 bi (Kxt [[61,61],[33,61],[60],[60,61],[62],[62,61]] op) fun y1=>some y1
def Lab(k:Nat)(p:Kwq):Option (Kwr×Kwq):=
 bi (Kzy k p) fun y1=>bi (Laa y1.tok.kind) fun y3=>bif !y3 then(some ((⟨1,p.tok.name,[61,61],(⟨3,1,[],(0,0,0,0)⟩:Kwo),(KD.mk 0 [])⟩:Kwr),y1)) else(bi (Kzy k y1) fun y7=>bif !((y7.tok.kind:Str)==[118,97,108,117,101]) then(bi (Kzz y7) fun y10=>some (y10.1,y10.2)) else(bi (Kzy k y7) fun y13=>some ((⟨1,p.tok.name,y1.tok.kind,y7.tok.value,(KD.mk 0 [])⟩:Kwr),y13)))
def Lac(rc_posture_parser_cond:Kwq→Option (Kwr×Kwq)):Nat→Kwq→Option (Kwr×Kwq)
 | 0,_=>none
 | k+1,p=>bif (p.tok.kind:Str)==[33] then(bi (Kzy k p) fun y2=>bi (Lac rc_posture_parser_cond k y2) fun y4=>some ((⟨2,[],[],(⟨0,0,[],(0,0,0,0)⟩:Kwo),(pk Kws [y4.1])⟩:Kwr),y4.2)) else(bif (p.tok.kind:Str)==[40] then(bi (Kzy k p) fun y8=>bi (rc_posture_parser_cond y8) fun y10=>bif y10.2.bad then(some (y10.1,y10.2)) else(bif !((y10.2.tok.kind:Str)==[41]) then(bi (Kzz y10.2) fun y15=>some (y15.1,y15.2)) else(bi (Kzy k y10.2) fun y18=>some (y10.1,y18)))) else(bif (p.tok.kind:Str)==[110,97,109,101] then(bi (Lab k p) fun y22=>some (y22.1,y22.2)) else(bi (Kzz p) fun y25=>some (y25.1,y25.2))))
def Lad(kind:Int)(l:List Kwr):Option Kwr:=
 bif ((l.length:Int):Int)==1 then(bi (getZ l 0) fun x2=>some x2) else(bi (rangeF (σ:=List Kwr) (fun i5 x7 s6=>bif (x7.Kind:Int)==kind then(bi (unK d_api_Cond 11 x7.Kids) fun l17=>bi (apd s6 l17) fun y19=>some y19) else(bi (apd s6 [x7]) fun y22=>some y22)) 0 l ([]:List Kwr)) fun q8=>some (⟨kind,[],[],(⟨0,0,[],(0,0,0,0)⟩:Kwo),(pk Kws q8)⟩:Kwr))
def Lae(rc_posture_parser_cond:Kwq→Option (Kwr×Kwq))(k:Nat)(p:Kwq):Option (Kwr×Kwq):=
 bi (Lac rc_posture_parser_cond k p) fun y1=>bi (loopM (σ:=Kwq×(List Kwr)) (ρ:=Kwq×(List Kwr)) (fun s4=>bif ((!s4.1.bad)&&((s4.1.tok.kind:Str)==[38,38])) then(bi (Kzy k s4.1) fun y14=>bi (Lac rc_posture_parser_cond k y14) fun y16=>bi (apd s4.2 [y16.1]) fun y18=>some (.go (y16.2,y18))) else(some (.out (s4.1,s4.2)))) k (y1.2,[y1.1])) fun q6=>bi (Lad 3 q6.2) fun y21=>some (y21,q6.1)
def Laf:Nat→Kwq→Option (Kwr×Kwq)
 | 0,_=>none
 | k+1,p=>bi (Lae (Laf k) k p) fun y1=>bi (loopM (σ:=Kwq×(List Kwr)) (ρ:=Kwq×(List Kwr)) (fun s4=>bif ((!s4.1.bad)&&((s4.1.tok.kind:Str)==[124,124])) then(bi (Kzy k s4.1) fun y14=>bi (Lae (Laf k) k y14) fun y16=>bi (apd s4.2 [y16.1]) fun y18=>some (.go (y16.2,y18))) else(some (.out (s4.1,s4.2)))) k (y1.2,[y1.1])) fun q6=>bi (Lad 4 q6.2) fun y21=>some (y21,q6.1)
def Lag:Nat→Kwr→Option (Int×Int)
 | 0,_=>none
 | k+1,c=>bi (bif (c.Kind:Int)==1 then(some 1) else(some 0)) fun q1=>bi (unK d_api_Cond 11 c.Kids) fun l5=>bi (rangeF (σ:=Int×Int) (fun i7 x9 s8=>bi (Lag k x9) fun y18=>some (wi (s8.1+y18.1),(if y18.2>s8.2 then y18.2 else s8.2))) 0 l5 (q1,0)) fun q10=>some (q10.1,wi (q10.2+1))
def Lah(v_k:Kwr)(x:Kwr):Option Bool:=
 some ((v_k.Kind:Int)==x.Kind)
def Lai(s:List Kwr)(f:Kwr):Option Int:=
 bi (rangeM (σ:=Unit) (ρ:=Int) (fun i1 x3 s2=>bi (Lah x3 f) fun y12=>bif y12 then(bi (some (i1:Int)) fun v=>some (.out v)) else(some (.go ()))) 0 s ()) fun q=>goI q fun a6=>some (-1)
def Laj(s:List Kwr)(f:Kwr):Option Bool:=
 bi (Lai s f) fun y1=>some (decide ((y1:Int)≥0))
def Lak(c:Kwr):Option Bool:=
 bi (unK d_api_Cond 11 c.Kids) fun l1=>bi (bif (c.Kind:Int)==1 then(bi (some (((l1.length:Int):Int)==0)) fun v=>some (.inr v)) else(bif (c.Kind:Int)==2 then(bif ((l1.length:Int):Int) != 1 then(bi (some false) fun v=>some (.inr v)) else(some (.inl ()))) else(bi (bif decide (((l1.length:Int):Int)<2) then(some true) else(bi (unK d_api_Cond 11 c.Kids) fun l20=>bi (Laj l20 c) fun y22=>some y22)) fun q16=>bif q16 then(bi (some false) fun v=>some (.inr v)) else(some (.inl ())))):Option (Unit ⊕ Bool)) fun q=>orI q fun a5=>some ((((c.Name:Str)==[])&&((c.Op:Str)==[]))&&(((c.Value.Kind:Int)==0)&&(((c.Value.Number:Int)==0)&&(((c.Value.Words:Str)==[])&&(decide (([c.Value.Version.1,c.Value.Version.2.1,c.Value.Version.2.2.1,c.Value.Version.2.2.2]:List Int)=[0,0,0,0])&&true)))))
def Lal(s:Str):Option Bool:=
 bi (gd (decide ((s.length:Int)≤9223372036854775807)) (rangeI (σ:=Unit) (ρ:=Bool) (fun i1 s2=>bi (getZ s (i1:Int)) fun c13=>bi (bif decide (((c13.toNat:Int):Int)<32) then(some true) else(bi (getZ s (i1:Int)) fun c19=>some (decide (((c19.toNat:Int):Int)>126)))) fun q15=>bif q15 then(bi (some false) fun v=>some (.out v)) else(some (.go ()))) (s.length:Int) ())) fun q=>goI q fun a6=>some (decide (((s.length:Int):Int)≤100))
def Lam(k:Nat)(a:Kwo):Option Int:=
 bi (Kxf a.Kind 1 4) fun y1=>bif y1 then(some 4) else(bi (bif (a.Kind:Int)==1 then(bi (Kxf a.Number (-100000000) 100000000) fun y8=>some y8) else(some false)) fun q5=>bi (bif q5 then(some true) else(bi (bif (a.Kind:Int)==3 then(bi (Kxf a.Number 0 1) fun y18=>some y18) else(some false)) fun q15=>some q15)) fun q11=>bif q11 then(some 1) else(bif ((((a.Kind:Int) != 1)&&((a.Kind:Int) != 3))&&((a.Number:Int) != 0)) then(some 3) else(bi (bif (a.Kind:Int)==2 then(bi (Lal a.Words) fun y28=>some (!y28)) else(some false)) fun q25=>bif (q25||(((a.Kind:Int) != 2)&&(!((a.Words:Str)==[])))) then(some 3) else(bi (loopM (σ:=Int) (ρ:=Unit ⊕ Int) (fun s34=>bif decide ((s34:Int)<4) then(bi (getZ ([a.Version.1,a.Version.2.1,a.Version.2.2.1,a.Version.2.2.2]:List Int) s34) fun x44=>bi (bif (a.Kind:Int)==4 then(bi (Kxf x44 0 1000000) fun y49=>some y49) else(some false)) fun q46=>bif q46 then(bi (some 1) fun v=>some (.out (.inr v))) else(bif (((a.Kind:Int) != 4)&&((x44:Int) != 0)) then(bi (some 3) fun v=>some (.out (.inr v))) else(some (.go (wi (s34+1)))))) else(some (.out (.inl ())))) k 0) fun q=>orI q fun a38=>some 0))))
def Lan:Nat→Kwr→Option Int
 | 0,_=>none
 | k+1,c=>bi (Kxf c.Kind 1 4) fun y1=>bif y1 then(some 4) else(bi (Lak c) fun y5=>bif !y5 then(some 3) else(bi (bif (c.Kind:Int)==1 then(bi (Kxd k c.Name) fun y13=>bi (bif (((!y13)||((c.Name:Str)==[116,114,117,101]))||((c.Name:Str)==[102,97,108,115,101])) then(some true) else(bi (Kzs c.Name) fun y19=>some y19)) fun q15=>bif q15 then(bi (some 5) fun v=>some (.inr v)) else(bi (Laa c.Op) fun y25=>bif !y25 then(bi (some 10) fun v=>some (.inr v)) else(bi (Lam k c.Value) fun y31=>bif (y31:Int) != 0 then(bi (some y31) fun v=>some (.inr v)) else(bif ((((c.Value.Kind:Int)==3)&&(!((c.Op:Str)==[61,61])))&&(!((c.Op:Str)==[33,61]))) then(bi (some 10) fun v=>some (.inr v)) else(some (.inl ())))))) else(some (.inl ())):Option (Unit ⊕ Int)) fun q=>orI q fun a11=>bi (unK d_api_Cond 11 c.Kids) fun l42=>bi (rangeM (σ:=Unit) (ρ:=Int) (fun i44 x46 s45=>bi (Lan k x46) fun y55=>bif (y55:Int) != 0 then(bi (some y55) fun v=>some (.out v)) else(some (.go ()))) 0 l42 ()) fun q=>goI q fun a49=>some 0))
def Lao(k:Nat)(c:Kwr):Option Int:=
 bi (Lag k c) fun y1=>bif ((decide ((y1.1:Int)>100))||(decide ((y1.2:Int)>30))) then(some 2) else(bi (Lan k c) fun y5=>some y5)
def Lap(k:Nat)(text:Str):Option (Kwr×Int×Int):=
 bif decide (((text.length:Int):Int)>5000) then(some ((⟨0,[],[],(⟨0,0,[],(0,0,0,0)⟩:Kwo),(KD.mk 0 [])⟩:Kwr),0,2)) else(bi (Kzy k (⟨text,(⟨[],0,0,[],(⟨0,0,[],(0,0,0,0)⟩:Kwo)⟩:Kwp),false,0⟩:Kwq)) fun y3=>bi (Laf k y3) fun y5=>bi (bif ((!y5.2.bad)&&(!((y5.2.tok.kind:Str)==[101,110,100]))) then(bi (Kzz y5.2) fun y10=>some y10.2) else(some y5.2)) fun q7=>bif q7.bad then(some ((⟨0,[],[],(⟨0,0,[],(0,0,0,0)⟩:Kwo),(KD.mk 0 [])⟩:Kwr),q7.v_at,9)) else(bi (Lao k y5.1) fun y15=>bif (y15:Int) != 0 then(some ((⟨0,[],[],(⟨0,0,[],(0,0,0,0)⟩:Kwo),(KD.mk 0 [])⟩:Kwr),0,y15)) else(some (y5.1,0,0))))
def Laq(k:Nat):Option Bool:=
 bi (Lap k [97]) fun y1=>some ((((y1.2.2:Int)==0)&&((y1.1.Kind:Int)==1))&&((y1.1.Name:Str)==[97]))
def Lar(s:List Kwl)(v:Kwl):Option Int:=
 bi (rangeM (σ:=Unit) (ρ:=Int) (fun i1 x3 s2=>bif (((v.Node:Str)==x3.Node)&&(((v.Posture:Str)==x3.Posture)&&true)) then(bi (some (i1:Int)) fun v=>some (.out v)) else(some (.go ()))) 0 s ()) fun q=>goI q fun a6=>some (-1)
def Las(s:List Kwl)(v:Kwl):Option Bool:=
 bi (Lar s v) fun y1=>some (decide ((y1:Int)≥0))
def Lat(k:Nat)(a:List Kwl)(b:List Kwl):Option ((List Kwl)×Bool):=
 bi (Kyd a) fun y1=>bi (rangeF (σ:=List Kwl) (fun i3 x5 s4=>bi (Las s4 x5) fun y14=>bif !y14 then(bi (apd s4 [x5]) fun y17=>some y17) else(some s4)) 0 b y1) fun q6=>sortD (fun a b=>Kzf a b) q6 fun y20=>gd (decide (y20.length=q6.length)) (bi (loopM (σ:=Int) (ρ:=Unit ⊕ ((List Kwl)×Bool)) (fun s27=>bif decide ((s27:Int)<(y20.length:Int)) then(bi (getZ y20 (wi (s27 - 1))) fun x37=>bi (getZ y20 s27) fun x40=>bi (Kzf x37 x40) fun y43=>bif (y43:Int)==0 then(bi (some ([],false)) fun v=>some (.out (.inr v))) else(some (.go (wi (s27+1))))) else(some (.out (.inl ())))) k 1) fun q=>orI q fun a31=>some (y20,true))
def Lau(k:Nat)(a:List Kwl)(b:List Kwl):Option ((List Kwl)×Int):=
 bi (Lat k a b) fun y1=>bif decide (((y1.1.length:Int):Int)>2000) then(some ([],2)) else(some (y1.1,0))
def Lav(k:Nat)(l:List Int)(al:BagT):Option (Bool×BagT):=
 bi (Kxa (⟨l,0⟩:Kwe)) fun y1=>bi (Kww y1.2 0 14) fun y3=>bi (Kxb y3.2 y3.1) fun y5=>bi (Kxc y5.2) fun y7=>bi (Kxy k y1.1 y5.1 al) fun y9=>bi (Kyc k y1.1 y5.1 y7.1 y9.2.2) fun y11=>bi (Kyi k y1.1 y5.1 y7.1 y11.2.2) fun y13=>bi (Kyl k y1.1 y5.1 y7.1 y13.2.2) fun y15=>bi (Kxg k y1.1) fun y17=>bi (Kyr y1.1) fun y19=>bi (bif (y17:Int) != y19 then(some true) else(bi (Kxn k y5.1) fun y25=>bi (Kyu y5.1) fun y27=>some ((y25:Int) != y27))) fun q21=>bif q21 then(some (false,y15.2.2.2)) else(bi (Kyr y1.1) fun y31=>bi (Kyu y5.1) fun y33=>bi (Kyv [y31,y33]) fun y35=>bi (Kyw y7.1) fun y37=>bi (Kyv [y35,y37]) fun y39=>bi (bif (((((y9.2.1:Int) != y35)||((y11.2.1:Int) != y39))||((y13.2.1:Int) != y39))||((y15.2.2.1:Int) != y39)) then(some (y15.2.2.2,true)) else(bi (bif (y35:Int)==0 then(bi (Kza y1.1 y5.1 y15.2.2.2) fun y48=>bi (Kzb y9.1 y48.1) fun y50=>some (y48.2,!y50)) else(some (y15.2.2.2,false))) fun q45=>some (q45.1,q45.2))) fun q41=>bif q41.2 then(some (false,q41.1)) else(bi (bif (y39:Int)==0 then(bi (Kzh k y1.1 y5.1 y7.1 q41.1) fun y59=>bi (Kzd y1.1 y5.1 y7.1 y59.2.2) fun y61=>bi (Kzi y11.1 y61.1) fun y63=>bi (bif !y63 then(some (y61.2,true)) else(bi (Kzg k y1.1 y5.1 y7.1 y61.2) fun y69=>bi (Kyk y13.1 y69.1) fun y71=>some (y69.2,!y71))) fun q65=>bif ((q65.2||((y15.1:Int) != y59.1))||(!((y15.2.1:Bool)==y59.2.1))) then(bi (some (false,q65.1)) fun v=>some (.inr v)) else(some (.inl q65.1))) else(some (.inl q41.1)):Option (BagT ⊕ (Bool×BagT))) fun q=>orI q fun a57=>bi (Kzj y7.2) fun y78=>bi (Kzj y78.2) fun y80=>bi (Kzk k y78.1 y80.1) fun y82=>bi (Kzl y78.1) fun y84=>bi (Kzl y80.1) fun y86=>bi (Kyv [y84,y86]) fun y88=>bif (y88:Int) != 0 then(bi (bif (((y82.2:Int)==y88)&&(((y82.1.length:Int):Int)==0)) then(bi (Laq k) fun y94=>some y94) else(some false)) fun q91=>some (q91,a57)) else(bi (Lau k y78.1 y80.1) fun y98=>bi (bif (y82.2:Int)==y98.2 then(bi (Kyk y82.1 y98.1) fun y103=>some y103) else(some false)) fun q100=>bi (bif q100 then(bi (Laq k) fun y109=>some y109) else(some false)) fun q106=>some (q106,a57))))
end
end Go.Gk
