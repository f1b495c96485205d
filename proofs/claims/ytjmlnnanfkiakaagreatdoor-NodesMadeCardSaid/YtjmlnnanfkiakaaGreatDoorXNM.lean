import Derived.Test.YtjmlnnanfkiakaaGreatDoorMStr3
import Derived.Test.YtjmlnnanfkiakaaGreatDoorGk53
set_option linter.unusedVariables false
namespace Go.Gk
noncomputable section
structure Lgd where
 L:List Int
 v_at:Int
 deriving DecidableEq
structure Lge where
 Tag:Str
 Users:List Str
 deriving DecidableEq
structure Lgf where
 Users:List Str
 Owners:List Lge
 Life:Int
 Approve:Bool
 deriving DecidableEq
structure Lgg where
 At:Int
 Server:Str
 No:Int
 Kind:Int
 By:Str
 Node:Str
 Join:Str
 Public:Str
 Name:Str
 Tags:List Str
 Until:Int
 Uses:Int
 Ready:Bool
 deriving DecidableEq
structure Lgh where
 d:Lgf
 l:List Lgg
 fault:Int
 deriving DecidableEq
structure Lgi where
 Six:Bool
 Hi:Int
 Lo:Int
 deriving DecidableEq
structure Lgj where
 Addr:Lgi
 Bits:Int
 deriving DecidableEq
structure Lgk where
 Node:Str
 Addrs:Tl Lgi
 Routes:Tl Lgj
 deriving DecidableEq
structure Lgl where
 server:Str
 no:Int
 deriving DecidableEq
structure Lgm where
 Key:Str
 User:Str
 Name:Str
 Tags:List Str
 Addrs:List Lgi
 Routes:List Lgj
 deriving DecidableEq
structure Lgn where
 Node:Str
 User:Str
 Name:Str
 Public:Str
 Tags:List Str
 Joined:Int
 Expires:Int
 Approved:Bool
 deriving DecidableEq
structure Lgo where
 v_at:Int
 is:Lgn
 gone:Bool
 key:Bool
 deriving DecidableEq
structure Lgp where
 d:Lgf
 users:List (Str×Bool)
 passes:List (Str×Nat)
 there:List (Str×Lgn)
 story:List (Str×(Tl Lgo))
 deriving DecidableEq
structure Lgq where
 Key:Str
 By:Str
 Tags:List Str
 Until:Int
 Left:Int
 Ready:Bool
 deriving DecidableEq
structure Lgr where
 Join:Lgq
 revoked:Bool
 used:Int
 deriving DecidableEq
structure Lgs where
 d:Lgf
 keys:List (Str×Nat)
 nodes:List (Str×Nat)
 ever:List (Str×Bool)
 History:List (Str×Vl)
 deriving DecidableEq
structure Lgt where
 Step:Int
 Why:Int
 deriving DecidableEq
structure Lgu where
 Join:Lgq
 revoked:Bool
 used:Int
 deriving DecidableEq
structure Lgv where
 Public:Str
 From:Int
 To:Int
 deriving DecidableEq
abbrev BagT:=List Bool×List (Nat×Lgr)×List (Nat×(List Lgv))×List (Nat×Lgn)×List (Nat×Lgu)×List (Nat×Str)
def Lgw(x:Int)(n:Int):Option Int:=
 bif decide ((n:Int)<1) then(some 0) else(bi (remZ x n) fun y3=>bi (bif decide ((y3:Int)<0) then(some (wi (y3+n))) else(some y3)) fun q5=>some q5)
def Lgx(s:Lgd)(n:Int):Option (Int×Lgd):=
 bif ((s.L.length:Int):Int)==0 then(bi (Lgw (wi ((wi (s.v_at+1)) * 7919)) n) fun y2=>some (y2,(⟨s.L,wi (s.v_at+1)⟩:Lgd))) else(bi (remZ (wi ((wi (s.v_at+1)) - 1)) (s.L.length:Int)) fun y5=>bi (divZ .i64 (wi ((wi (s.v_at+1)) - 1)) (s.L.length:Int)) fun y7=>bi (getZ s.L y5) fun x9=>bi (Lgw x9 1073741824) fun y11=>bi (Lgw (wi (y11+(wi (y7 * (wi (7919+y5)))))) n) fun y13=>some (y13,(⟨s.L,wi (s.v_at+1)⟩:Lgd)))
def Lgy(s:Lgd)(low:Int)(high:Int):Option (Int×Lgd):=
 bif decide ((high:Int)<low) then(some (low,s)) else(bi (Lgx s (wi ((wi (high - low))+1))) fun y3=>some (wi (low+y3.1),y3.2))
def Lgz(s:Lgd)(l:List Int):Option (Int×Lgd):=
 bi (Lgx s (l.length:Int)) fun y1=>bi (getZ l y1.1) fun x3=>some (x3,y1.2)
def Lha(s:Lgd)(n:Int):Option (Bool×Lgd):=
 bi (Lgx s n) fun y1=>some ((y1.1:Int)==0,y1.2)
def Lhb(s:Lgd):Option (Lgf×Lgd):=
 bi (Lgx s 3) fun y1=>bi (getZ [[[97,110,110],[98,111,98]],[[98,111,98]],[]] y1.1) fun x3=>bi (Lgx y1.2 2) fun y5=>bi (getZ [[[97,110,110]],[[97,110,110],[99,105,100]]] y5.1) fun x7=>bi (Lgz y5.2 [20,60,100,1000]) fun y9=>bi (Lha y9.2 3) fun y11=>some ((⟨[[97,110,110],[98,111,98],[99,105,100]],[(⟨[100,98],x3⟩:Lge),(⟨[119,101,98],x7⟩:Lge)],y9.1,y11.1⟩:Lgf),y11.2)
def Lhc(s:Lgd)(l:List Str):Option (Str×Lgd):=
 bi (Lgx s (l.length:Int)) fun y1=>bi (getZ l y1.1) fun x3=>some (x3,y1.2)
def Lhd(s:Lgd):Option (Lgf×Lgd):=
 bi (Lhb s) fun y1=>bi (Lha y1.2 15) fun y3=>bi (bif y3.1 then(bi (Lgx y3.2 4) fun y8=>bif (y8.1:Int)==0 then(bi (Lhc y8.2 [[],[97,110,110],[65]]) fun y11=>bi (apd y1.1.Users [y11.1]) fun y13=>some (y11.2,y13,y1.1.Owners,y1.1.Life)) else(bif (y8.1:Int)==1 then(bi (Lhc y8.2 [[],[100,98],[122,122]]) fun y17=>bi (Lhc y17.2 [[97,110,110],[110,111,110,101]]) fun y19=>bi (apd y1.1.Owners [(⟨y17.1,[y19.1]⟩:Lge)]) fun y21=>some (y19.2,y1.1.Users,y21,y1.1.Life)) else(bif (y8.1:Int)==2 then(bi (Lhc y8.2 [[97,110,110],[98,111,98]]) fun y25=>bi (getZ y1.1.Owners 0) fun x27=>some (y25.2,y1.1.Users,y1.1.Owners.set ((0:Int).toNat) (⟨x27.Tag,[[98,111,98],y25.1]⟩:Lge),y1.1.Life)) else(bi (Lgz y8.2 [0,345686400,345686401]) fun y31=>some (y31.2,y1.1.Users,y1.1.Owners,y31.1))))) else(some (y3.2,y1.1.Users,y1.1.Owners,y1.1.Life))) fun q5=>some ((⟨q5.2.1,q5.2.2.1,q5.2.2.2,y1.1.Approve⟩:Lgf),q5.1)
def Lhe(s:Lgd):Option (Str×Lgd):=
 bi (Lhc s [[97,110,110],[97,110,110],[97,110,110],[98,111,98],[99,105,100],[122,101,100]]) fun y1=>some (y1.1,y1.2)
def Lhf(s:Lgd):Option ((List Str)×Lgd):=
 bi (Lgx s 6) fun y1=>bi (getZ [[],[[119,101,98]],[[119,101,98]],[[100,98]],[[100,98],[119,101,98]],[[110,111,110,101]]] y1.1) fun x3=>some (x3,y1.2)
def Lhg(s:Lgd)(v_at:Int):Option (Lgg×Lgd):=
 bi (Lhc s [[115,49],[115,49],[115,50]]) fun y1=>bi (Lgz y1.2 [1,2,3,3,3,3,3,4,5,5,6,7,7,8,9]) fun y3=>bi (Lhe y3.2) fun y5=>bi (Lhc y5.2 [[110,97],[110,97],[110,98],[110,98],[110,99],[110,100]]) fun y7=>bi (Lhc y7.2 [[107,49],[107,49],[107,50]]) fun y9=>bi (Lhc y9.2 [[48,97],[48,98],[48,99],[48,100],[48,101],[49,97],[49,98]]) fun y11=>bi (bif (y3.1:Int)==1 then(bi (Lhf y11.2) fun y16=>bi (Lgz y16.2 [0,5,50,200]) fun y18=>bi (Lgz y18.2 [0,1,2,1000,1001]) fun y20=>bi (Lha y20.2 2) fun y22=>some (y22.2,(⟨v_at,y1.1,0,y3.1,y5.1,[],y9.1,[],[],y16.1,wi (v_at+y18.1),y20.1,y22.1⟩:Lgg))) else(bif (y3.1:Int)==2 then(some (y11.2,(⟨v_at,y1.1,0,y3.1,y5.1,[],y9.1,[],[],[],0,0,false⟩:Lgg))) else(bif (y3.1:Int)==3 then(bi (Lhc y11.2 [y7.1,[98,111,120],[98,111,120],[119,101,98]]) fun y28=>bi (Lha y28.2 4) fun y30=>bif y30.1 then(bi (Lha y30.2 8) fun y33=>bif !y33.1 then(some (y33.2,(⟨v_at,y1.1,0,y3.1,[],y7.1,y9.1,y11.1,y28.1,[],0,0,false⟩:Lgg))) else(some (y33.2,(⟨v_at,y1.1,0,y3.1,y5.1,y7.1,y9.1,y11.1,y28.1,[],0,0,false⟩:Lgg)))) else(some (y30.2,(⟨v_at,y1.1,0,y3.1,y5.1,y7.1,[],y11.1,y28.1,[],0,0,false⟩:Lgg)))) else(bif (y3.1:Int)==5 then(some (y11.2,(⟨v_at,y1.1,0,y3.1,y5.1,y7.1,[],y11.1,[],[],0,0,false⟩:Lgg))) else(bif (y3.1:Int)==6 then(bi (Lhc y11.2 [[98,111,120],[119,101,98],[109,97,99]]) fun y42=>some (y42.2,(⟨v_at,y1.1,0,y3.1,y5.1,y7.1,[],[],y42.1,[],0,0,false⟩:Lgg))) else(bif (y3.1:Int)==7 then(bi (Lhf y11.2) fun y46=>some (y46.2,(⟨v_at,y1.1,0,y3.1,y5.1,y7.1,[],[],[],y46.1,0,0,false⟩:Lgg))) else(some (y11.2,(⟨v_at,y1.1,0,y3.1,y5.1,y7.1,[],[],[],[],0,0,false⟩:Lgg))))))))) fun q13=>some (q13.2,q13.1)
def Lhh(x:Int):Option Bool:=
 some ((x:Int) != x)
def Lhi(x:Int)(y:Int):Option Int:=
 bi (Lhh x) fun y1=>bi (Lhh y) fun y3=>bif y1 then(bif y3 then(some 0) else(some (-1))) else(bif y3 then(some 1) else(bif decide ((x:Int)<y) then(some (-1)) else(bif decide ((x:Int)>y) then(some 1) else(some 0))))
def Lhj(vals:List Int):Option Int:=
 bi (rangeM (σ:=Unit) (ρ:=Int) (fun i1 x3 s2=>bif (x3:Int) != 0 then(bi (some x3) fun v=>some (.out v)) else(some (.go ()))) 0 vals ()) fun q=>goI q fun a6=>some 0
def Lhk(a:Lgg)(b:Lgg):Option Int:=
 bi (Lhi a.At b.At) fun y1=>bi (Kzt a.Server b.Server) fun y3=>bi (Lhi a.No b.No) fun y5=>bi (Lhj [y1,y3,y5]) fun y7=>some y7
def Lhl(k:Nat)(data:List Lgg)(a:Int)(b:Int):Option (List Lgg):=
 bi (loopM (σ:=(List Lgg)×Int) (ρ:=List Lgg) (fun s2=>bif decide ((s2.2:Int)<b) then(bi (loopM (σ:=(List Lgg)×Int) (ρ:=List Lgg) (fun s13=>bi (bif decide ((s13.2:Int)>a) then(bi (getZ s13.1 s13.2) fun x25=>bi (getZ s13.1 (wi (s13.2 - 1))) fun x28=>bi (Lhk x25 x28) fun y31=>some (decide ((y31:Int)<0))) else(some false)) fun q22=>bif q22 then(bi (getZ s13.1 (wi (s13.2 - 1))) fun x35=>bi (getZ s13.1 s13.2) fun x38=>bi (getZ s13.1 s13.2) fun x41=>bi (getZ s13.1 (wi (s13.2 - 1))) fun x44=>bi (getZ (s13.1.set s13.2.toNat x35) (((wi (s13.2 - 1)).toNat:Nat):Int)) fun x47=>some (.go ((s13.1.set s13.2.toNat x35).set ((wi (s13.2 - 1)).toNat) x38,wi (s13.2 - 1)))) else(some (.out s13.1))) k (s2.1,s2.2)) fun q15=>some (.go (q15,wi (s2.2+1)))) else(some (.out s2.1))) k (data,wi (a+1))) fun q4=>some q4
def Lhm(k:Nat)(data:List Lgg)(n:Int):Option (List Lgg):=
 bi (loopM (σ:=(List Lgg)×Int×Int) (ρ:=(List Lgg)×Int) (fun s2=>bif decide ((s2.2.2:Int)≤n) then(bi (Lhl k s2.1 s2.2.1 s2.2.2) fun y12=>gd (decide (y12.length=s2.1.length)) (some (.go (y12,s2.2.2,wi (s2.2.2+20))))) else(some (.out (s2.1,s2.2.1)))) k (data,0,20)) fun q4=>bi (Lhl k q4.1 q4.2 n) fun y17=>gd (decide (y17.length=q4.1.length)) (bi (loopM (σ:=Int) (ρ:=Unit) (fun s22=>bif decide ((s22:Int)<n) then(bi (loopM (σ:=Unit) (ρ:=Unit) (fun s33=>bif decide ((wi (2 * s22):Int)≤n) then none else(some (.out ()))) k ()) fun q35=>bif decide ((wi (0+s22):Int)<n) then none else(some (.go (wi (s22 * 2))))) else(some (.out ()))) k 20) fun q24=>some y17)
def Lhn(k:Nat)(x:List Lgg):Option (List Lgg):=
 bi (Lhm k x (x.length:Int)) fun y1=>some y1
def Lho(k:Nat)(s:Lgd)(many:Int):Option ((List Lgg)×Lgd):=
 bi (Lgx s 5) fun y1=>bi (gd (decide (many≤9223372036854775807)) (rangeG (σ:=Lgd×(List Lgg)×(List (Str×Int))×Int) (fun i3 s4=>bi (Lhg s4.1 s4.2.2.2) fun y15=>bi (apd s4.2.1 [(⟨y15.1.At,y15.1.Server,((mGet (mSet s4.2.2.1 y15.1.Server (wi (((mGet s4.2.2.1 y15.1.Server).getD 0)+1))) y15.1.Server).getD 0),y15.1.Kind,y15.1.By,y15.1.Node,y15.1.Join,y15.1.Public,y15.1.Name,y15.1.Tags,y15.1.Until,y15.1.Uses,y15.1.Ready⟩:Lgg)]) fun y17=>bi (Lgz y15.2 [0,1,1,5,20,60]) fun y19=>some (y19.2,y17,(mSet s4.2.2.1 y15.1.Server (wi (((mGet s4.2.2.1 y15.1.Server).getD 0)+1))),wi (s4.2.2.2+y19.1))) many (y1.2,([]:List Lgg),([]:List (Str×Int)),y1.1))) fun q6=>bi (Lhn k q6.2.1) fun y21=>gd (decide (y21.length=q6.2.1.length)) (bi (bif decide (((y21.length:Int):Int)>0) then(bi (Lha q6.1 15) fun y28=>some (y28.2,y28.1)) else(some (q6.1,false))) fun q25=>bi (bif q25.2 then(bi (Lgx q25.1 (y21.length:Int)) fun y34=>bi (getZ y21 y34.1) fun x36=>bi (Lgx y34.2 6) fun y39=>bif (y39.1:Int)==0 then(bi (Lgz y39.2 [-1,0,345686400]) fun y42=>some (y42.2,y21.set y34.1.toNat (⟨y42.1,x36.Server,x36.No,x36.Kind,x36.By,x36.Node,x36.Join,x36.Public,x36.Name,x36.Tags,x36.Until,x36.Uses,x36.Ready⟩:Lgg))) else(bif (y39.1:Int)==1 then(bi (Lhc y39.2 [[],[115,49]]) fun y46=>bi (Lgz y46.2 [0,1,1000001]) fun y48=>some (y48.2,(y21.set y34.1.toNat (⟨x36.At,y46.1,x36.No,x36.Kind,x36.By,x36.Node,x36.Join,x36.Public,x36.Name,x36.Tags,x36.Until,x36.Uses,x36.Ready⟩:Lgg)).set y34.1.toNat (⟨(⟨x36.At,y46.1,x36.No,x36.Kind,x36.By,x36.Node,x36.Join,x36.Public,x36.Name,x36.Tags,x36.Until,x36.Uses,x36.Ready⟩:Lgg).At,(⟨x36.At,y46.1,x36.No,x36.Kind,x36.By,x36.Node,x36.Join,x36.Public,x36.Name,x36.Tags,x36.Until,x36.Uses,x36.Ready⟩:Lgg).Server,y48.1,(⟨x36.At,y46.1,x36.No,x36.Kind,x36.By,x36.Node,x36.Join,x36.Public,x36.Name,x36.Tags,x36.Until,x36.Uses,x36.Ready⟩:Lgg).Kind,(⟨x36.At,y46.1,x36.No,x36.Kind,x36.By,x36.Node,x36.Join,x36.Public,x36.Name,x36.Tags,x36.Until,x36.Uses,x36.Ready⟩:Lgg).By,(⟨x36.At,y46.1,x36.No,x36.Kind,x36.By,x36.Node,x36.Join,x36.Public,x36.Name,x36.Tags,x36.Until,x36.Uses,x36.Ready⟩:Lgg).Node,(⟨x36.At,y46.1,x36.No,x36.Kind,x36.By,x36.Node,x36.Join,x36.Public,x36.Name,x36.Tags,x36.Until,x36.Uses,x36.Ready⟩:Lgg).Join,(⟨x36.At,y46.1,x36.No,x36.Kind,x36.By,x36.Node,x36.Join,x36.Public,x36.Name,x36.Tags,x36.Until,x36.Uses,x36.Ready⟩:Lgg).Public,(⟨x36.At,y46.1,x36.No,x36.Kind,x36.By,x36.Node,x36.Join,x36.Public,x36.Name,x36.Tags,x36.Until,x36.Uses,x36.Ready⟩:Lgg).Name,(⟨x36.At,y46.1,x36.No,x36.Kind,x36.By,x36.Node,x36.Join,x36.Public,x36.Name,x36.Tags,x36.Until,x36.Uses,x36.Ready⟩:Lgg).Tags,(⟨x36.At,y46.1,x36.No,x36.Kind,x36.By,x36.Node,x36.Join,x36.Public,x36.Name,x36.Tags,x36.Until,x36.Uses,x36.Ready⟩:Lgg).Until,(⟨x36.At,y46.1,x36.No,x36.Kind,x36.By,x36.Node,x36.Join,x36.Public,x36.Name,x36.Tags,x36.Until,x36.Uses,x36.Ready⟩:Lgg).Uses,(⟨x36.At,y46.1,x36.No,x36.Kind,x36.By,x36.Node,x36.Join,x36.Public,x36.Name,x36.Tags,x36.Until,x36.Uses,x36.Ready⟩:Lgg).Ready⟩:Lgg))) else(bif (y39.1:Int)==2 then(bi (Lgz y39.2 [0,10,3]) fun y53=>some (y53.2,y21.set y34.1.toNat (⟨x36.At,x36.Server,x36.No,y53.1,x36.By,x36.Node,x36.Join,x36.Public,x36.Name,x36.Tags,x36.Until,x36.Uses,x36.Ready⟩:Lgg))) else(bif (y39.1:Int)==3 then(bi (Lhc y39.2 [[],[65],[97,110,110]]) fun y57=>bi (Lhc y57.2 [[],[110,97]]) fun y59=>some (y59.2,(y21.set y34.1.toNat (⟨x36.At,x36.Server,x36.No,x36.Kind,y57.1,x36.Node,x36.Join,x36.Public,x36.Name,x36.Tags,x36.Until,x36.Uses,x36.Ready⟩:Lgg)).set y34.1.toNat (⟨(⟨x36.At,x36.Server,x36.No,x36.Kind,y57.1,x36.Node,x36.Join,x36.Public,x36.Name,x36.Tags,x36.Until,x36.Uses,x36.Ready⟩:Lgg).At,(⟨x36.At,x36.Server,x36.No,x36.Kind,y57.1,x36.Node,x36.Join,x36.Public,x36.Name,x36.Tags,x36.Until,x36.Uses,x36.Ready⟩:Lgg).Server,(⟨x36.At,x36.Server,x36.No,x36.Kind,y57.1,x36.Node,x36.Join,x36.Public,x36.Name,x36.Tags,x36.Until,x36.Uses,x36.Ready⟩:Lgg).No,(⟨x36.At,x36.Server,x36.No,x36.Kind,y57.1,x36.Node,x36.Join,x36.Public,x36.Name,x36.Tags,x36.Until,x36.Uses,x36.Ready⟩:Lgg).Kind,(⟨x36.At,x36.Server,x36.No,x36.Kind,y57.1,x36.Node,x36.Join,x36.Public,x36.Name,x36.Tags,x36.Until,x36.Uses,x36.Ready⟩:Lgg).By,y59.1,(⟨x36.At,x36.Server,x36.No,x36.Kind,y57.1,x36.Node,x36.Join,x36.Public,x36.Name,x36.Tags,x36.Until,x36.Uses,x36.Ready⟩:Lgg).Join,(⟨x36.At,x36.Server,x36.No,x36.Kind,y57.1,x36.Node,x36.Join,x36.Public,x36.Name,x36.Tags,x36.Until,x36.Uses,x36.Ready⟩:Lgg).Public,(⟨x36.At,x36.Server,x36.No,x36.Kind,y57.1,x36.Node,x36.Join,x36.Public,x36.Name,x36.Tags,x36.Until,x36.Uses,x36.Ready⟩:Lgg).Name,(⟨x36.At,x36.Server,x36.No,x36.Kind,y57.1,x36.Node,x36.Join,x36.Public,x36.Name,x36.Tags,x36.Until,x36.Uses,x36.Ready⟩:Lgg).Tags,(⟨x36.At,x36.Server,x36.No,x36.Kind,y57.1,x36.Node,x36.Join,x36.Public,x36.Name,x36.Tags,x36.Until,x36.Uses,x36.Ready⟩:Lgg).Until,(⟨x36.At,x36.Server,x36.No,x36.Kind,y57.1,x36.Node,x36.Join,x36.Public,x36.Name,x36.Tags,x36.Until,x36.Uses,x36.Ready⟩:Lgg).Uses,(⟨x36.At,x36.Server,x36.No,x36.Kind,y57.1,x36.Node,x36.Join,x36.Public,x36.Name,x36.Tags,x36.Until,x36.Uses,x36.Ready⟩:Lgg).Ready⟩:Lgg))) else(bif (y39.1:Int)==4 then(bi (Kzo [97] 21) fun y64=>bi (Lhc y39.2 [[],[120,121,122],[48,65],y64]) fun y66=>bi (Lgz y66.2 [0,-1,1000000000]) fun y68=>some (y68.2,(y21.set y34.1.toNat (⟨x36.At,x36.Server,x36.No,x36.Kind,x36.By,x36.Node,x36.Join,y66.1,x36.Name,x36.Tags,x36.Until,x36.Uses,x36.Ready⟩:Lgg)).set y34.1.toNat (⟨(⟨x36.At,x36.Server,x36.No,x36.Kind,x36.By,x36.Node,x36.Join,y66.1,x36.Name,x36.Tags,x36.Until,x36.Uses,x36.Ready⟩:Lgg).At,(⟨x36.At,x36.Server,x36.No,x36.Kind,x36.By,x36.Node,x36.Join,y66.1,x36.Name,x36.Tags,x36.Until,x36.Uses,x36.Ready⟩:Lgg).Server,(⟨x36.At,x36.Server,x36.No,x36.Kind,x36.By,x36.Node,x36.Join,y66.1,x36.Name,x36.Tags,x36.Until,x36.Uses,x36.Ready⟩:Lgg).No,(⟨x36.At,x36.Server,x36.No,x36.Kind,x36.By,x36.Node,x36.Join,y66.1,x36.Name,x36.Tags,x36.Until,x36.Uses,x36.Ready⟩:Lgg).Kind,(⟨x36.At,x36.Server,x36.No,x36.Kind,x36.By,x36.Node,x36.Join,y66.1,x36.Name,x36.Tags,x36.Until,x36.Uses,x36.Ready⟩:Lgg).By,(⟨x36.At,x36.Server,x36.No,x36.Kind,x36.By,x36.Node,x36.Join,y66.1,x36.Name,x36.Tags,x36.Until,x36.Uses,x36.Ready⟩:Lgg).Node,(⟨x36.At,x36.Server,x36.No,x36.Kind,x36.By,x36.Node,x36.Join,y66.1,x36.Name,x36.Tags,x36.Until,x36.Uses,x36.Ready⟩:Lgg).Join,(⟨x36.At,x36.Server,x36.No,x36.Kind,x36.By,x36.Node,x36.Join,y66.1,x36.Name,x36.Tags,x36.Until,x36.Uses,x36.Ready⟩:Lgg).Public,(⟨x36.At,x36.Server,x36.No,x36.Kind,x36.By,x36.Node,x36.Join,y66.1,x36.Name,x36.Tags,x36.Until,x36.Uses,x36.Ready⟩:Lgg).Name,(⟨x36.At,x36.Server,x36.No,x36.Kind,x36.By,x36.Node,x36.Join,y66.1,x36.Name,x36.Tags,x36.Until,x36.Uses,x36.Ready⟩:Lgg).Tags,y68.1,(⟨x36.At,x36.Server,x36.No,x36.Kind,x36.By,x36.Node,x36.Join,y66.1,x36.Name,x36.Tags,x36.Until,x36.Uses,x36.Ready⟩:Lgg).Uses,(⟨x36.At,x36.Server,x36.No,x36.Kind,x36.By,x36.Node,x36.Join,y66.1,x36.Name,x36.Tags,x36.Until,x36.Uses,x36.Ready⟩:Lgg).Ready⟩:Lgg))) else(bi (Lgx y39.2 3) fun y72=>bi (getZ [[[119,101,98],[100,98]],[[]],[[97],[98]]] y72.1) fun x74=>some (y72.2,y21.set y34.1.toNat (⟨x36.At,x36.Server,x36.No,x36.Kind,x36.By,x36.Node,x36.Join,x36.Public,x36.Name,x74,x36.Until,x36.Uses,x36.Ready⟩:Lgg)))))))) else(some (q25.1,y21))) fun q31=>some (q31.2,q31.1))
def Lhp(n:Int)(low:Int)(high:Int):Option Bool:=
 some ((decide ((low:Int)≤n))&&(decide ((n:Int)≤high)))
def Lhq(s:Str)(v_some:Str):Option Bool:=
 bi (Kzm s v_some) fun y1=>some ((y1:Str)==[])
def Lhr(s:Str):Option Bool:=
 bi (Lhp (s.length:Int) 1 40) fun y1=>bi (bif y1 then(bi (subZ s 0 1) fun z6=>bi (Lhq z6 [97,98,99,100,101,102,103,104,105,106,107,108,109,110,111,112,113,114,115,116,117,118,119,120,121,122]) fun y8=>some y8) else(some false)) fun q3=>bi (bif q3 then(bi (Lhq s [97,98,99,100,101,102,103,104,105,106,107,108,109,110,111,112,113,114,115,116,117,118,119,120,121,122,48,49,50,51,52,53,54,55,56,57,45,95]) fun y14=>some y14) else(some false)) fun q11=>some q11
def Lhs(l:List Str):Option Int:=
 bi (rangeM (σ:=Unit) (ρ:=Int) (fun i1 x3 s2=>bi (Lhr x3) fun y12=>bif !y12 then(bi (some 5) fun v=>some (.out v)) else(bi (bif decide (((i1:Int):Int)>0) then(bi (getZ l (wi ((i1:Int) - 1))) fun x21=>some (Op.bytesLess x3 x21||(x3:Str)==x21)) else(some false)) fun q18=>bif q18 then(bi (some 7) fun v=>some (.out v)) else(some (.go ())))) 0 l ()) fun q=>goI q fun a6=>some 0
def Lht(s:List Str)(v:Str):Option Int:=
 bi (rangeM (σ:=Unit) (ρ:=Int) (fun i1 x3 s2=>bif (v:Str)==x3 then(bi (some (i1:Int)) fun v=>some (.out v)) else(some (.go ()))) 0 s ()) fun q=>goI q fun a6=>some (-1)
def Lhu(s:List Str)(v:Str):Option Bool:=
 bi (Lht s v) fun y1=>some (decide ((y1:Int)≥0))
def Lhv(n:Int)(low:Int)(high:Int):Option Bool:=
 some ((decide ((low:Int)≤n))&&(decide ((n:Int)≤high)))
def Lhw(d:Lgf):Option Int:=
 bif decide (((d.Users.length:Int):Int)>200) then(some 2) else(bi (Lhs d.Users) fun y3=>bif (y3:Int) != 0 then(some y3) else(bif decide (((d.Owners.length:Int):Int)>100) then(some 2) else(bi (rangeM (σ:=Unit) (ρ:=Int) (fun i9 x11 s10=>bi (Lhr x11.Tag) fun y20=>bif !y20 then(bi (some 5) fun v=>some (.out v)) else(bi (bif decide (((i9:Int):Int)>0) then(bi (getZ d.Owners (wi ((i9:Int) - 1))) fun x29=>some (Op.bytesLess x11.Tag x29.Tag||(x11.Tag:Str)==x29.Tag)) else(some false)) fun q26=>bif q26 then(bi (some 7) fun v=>some (.out v)) else(bi (rangeM (σ:=Unit) (ρ:=LS Unit Int) (fun i36 x38 s37=>bi (Lhu d.Users x38) fun y47=>bif !y47 then(bi (bi (some 8) fun v=>some (.out v)) fun v=>some (.out v)) else(bi (bif decide (((i36:Int):Int)>0) then(bi (getZ x11.Users (wi ((i36:Int) - 1))) fun x58=>some (Op.bytesLess x38 x58||(x38:Str)==x58)) else(some false)) fun q55=>bif q55 then(bi (bi (some 7) fun v=>some (.out v)) fun v=>some (.out v)) else(some (.go ())))) 0 x11.Users ()) fun q=>goI q fun a41=>some (.go ())))) 0 d.Owners ()) fun q=>goI q fun a14=>bi (Lhv d.Life 1 345686400) fun y67=>bif !y67 then(some 1) else(some 0))))
def Lhx(v_at:Int):Option Bool:=
 bi (Lhp v_at 0 345686399) fun y1=>some y1
def Lhy(kind:Int):Option Str:=
 bi (getZ [[],[98,106,116,117,115,114],[98,106],[66,110,74,112,109],[98,110],[98,110,112],[98,110,109],[98,110,116],[98,110],[98,110]] kind) fun x1=>some x1
def Lhz(s:Str):Option Int:=
 bi (Lhr s) fun y1=>bif !y1 then(some 5) else(some 0)
def Lia(s:Str):Option Bool:=
 bi (Lhv (s.length:Int) 1 20) fun y1=>bi (bif y1 then(bi (Kzm s [48,49,50,51,52,53,54,55,56,57,97,98,99,100,101,102]) fun y6=>some ((y6:Str)==[])) else(some false)) fun q3=>some q3
def Lic(s:Lgg)(c:Int):Option Int:=
 bi (bi (bif (c:Int)==98 then(some ((c:Int)==98)) else(bif (c:Int)==110 then(some ((c:Int)==110)) else(bif (c:Int)==106 then(some ((c:Int)==106)) else(some ((c:Int)==109))))) fun q4=>bif q4 then(bi (Lhz ((mGet (mSet (mSet (mSet (mSet ([]:List (Int×Str)) 98 s.By) 110 s.Node) 106 s.Join) 109 s.Name) c).getD [])) fun y13=>bi (some y13) fun v=>some (.inr v)) else(bi (bif (c:Int)==66 then(some ((c:Int)==66)) else(some ((c:Int)==74))) fun q18=>bif q18 then(bif !((((mGet (mSet (mSet ([]:List (Int×Str)) 66 s.By) 74 s.Join) c).getD []):Str)==[]) then(bi (Lhz ((mGet (mSet (mSet ([]:List (Int×Str)) 66 s.By) 74 s.Join) c).getD [])) fun y24=>bi (some y24) fun v=>some (.inr v)) else(some (.inl ()))) else(bif (c:Int)==112 then(bi (Lia s.Public) fun y31=>bif !y31 then(bi (some 5) fun v=>some (.inr v)) else(some (.inl ()))) else(bif (c:Int)==116 then(bif decide (((s.Tags.length:Int):Int)>10) then(bi (some 2) fun v=>some (.inr v)) else(bi (Lhs s.Tags) fun y43=>bi (some y43) fun v=>some (.inr v))) else(bi (bif (c:Int)==117 then(some ((c:Int)==117)) else(some ((c:Int)==115))) fun q48=>bif q48 then(bi (Lhv ((mGet (mSet (mSet ([]:List (Int×Int)) 117 s.Until) 115 s.Uses) c).getD 0) 0 999999999) fun y53=>bif !y53 then(bi (some 1) fun v=>some (.inr v)) else(some (.inl ()))) else(some (.inl ())))))):Option (Unit ⊕ Int)) fun q=>orI q fun a3=>some 0
def Lid(s:Lgg):Option Int:=
 bi (Lhx s.At) fun y1=>bif !y1 then(some 1) else(bi (Lhr s.Server) fun y5=>bif !y5 then(some 5) else(bi (Lhv s.No 1 1000000) fun y9=>bif !y9 then(some 1) else(bi (Lhv s.Kind 1 9) fun y13=>bif !y13 then(some 4) else(bi (Lhy s.Kind) fun y17=>gd (asc y17) (bi (rangeM (σ:=Unit) (ρ:=Int) (fun sn23 x22 s21=>bi (Lic s (x22.toNat:Int)) fun y63=>bif (y63:Int) != 0 then(bi (some y63) fun v=>some (.out v)) else(some (.go ()))) 0 y17 ()) fun q=>goI q fun s21=>bi (Lhy s.Kind) fun y30=>bi (Kzx y30) fun y32=>bi (rangePM (σ:=Unit) (ρ:=Int) (fun x41 s40=>bi (bif !x41.2 then(bi (Kzu y32 x41.1) fun y54=>some (decide ((y54:Int)<0))) else(some false)) fun q51=>bif q51 then(bi (some 3) fun v=>some (.out v)) else(some (.go ()))) (mSet (mSet (mSet (mSet (mSet (mSet (mSet (mSet (mSet ([]:List (Int×Bool)) 98 ((s.By:Str)==[])) 110 ((s.Node:Str)==[])) 106 ((s.Join:Str)==[])) 112 ((s.Public:Str)==[])) 109 ((s.Name:Str)==[])) 116 (((s.Tags.length:Int):Int)==0)) 117 ((s.Until:Int)==0)) 115 ((s.Uses:Int)==0)) 114 (!s.Ready)) ()) fun q=>goI q fun s40=>some 0)))))
def Lie(x:Lgg)(x2:Lgg):Option Bool:=
 some (((x.Server:Str)==x2.Server)&&((x.No:Int)==x2.No))
def Lif(s:List Lgg)(f:Lgg):Option Int:=
 bi (rangeM (σ:=Unit) (ρ:=Int) (fun i1 x3 s2=>bi (Lie x3 f) fun y12=>bif y12 then(bi (some (i1:Int)) fun v=>some (.out v)) else(some (.go ()))) 0 s ()) fun q=>goI q fun a6=>some (-1)
def Lig(s:List Lgg)(f:Lgg):Option Bool:=
 bi (Lif s f) fun y1=>some (decide ((y1:Int)≥0))
def Lih(l:List Lgg):Option Int:=
 bif decide (((l.length:Int):Int)>2000) then(some 2) else(bi (rangeM (σ:=Unit) (ρ:=Int) (fun i3 x5 s4=>bi (Lid x5) fun y14=>bif (y14:Int) != 0 then(bi (some y14) fun v=>some (.out v)) else(bi (bif decide (((i3:Int):Int)>0) then(bi (getZ l (wi ((i3:Int) - 1))) fun x23=>bi (Lhk x23 x5) fun y25=>some (decide ((y25:Int)≥0))) else(some false)) fun q20=>bif q20 then(bi (some 7) fun v=>some (.out v)) else(bi (subZ l 0 (i3:Int)) fun z32=>bi (Lig z32 x5) fun y34=>bif y34 then(bi (some 6) fun v=>some (.out v)) else(some (.go ()))))) 0 l ()) fun q=>goI q fun a8=>some 0)
def Lii(vals:List Int):Option Int:=
 bi (rangeM (σ:=Unit) (ρ:=Int) (fun i1 x3 s2=>bif (x3:Int) != 0 then(bi (some x3) fun v=>some (.out v)) else(some (.go ()))) 0 vals ()) fun q=>goI q fun a6=>some 0
def Lij(k:Nat)(s:Lgd)(many:Int):Option (Lgh×Lgd):=
 bi (Lhd (⟨s.L,s.v_at⟩:Lgd)) fun y1=>bi (Lho k y1.2 many) fun y3=>bi (Lhw y1.1) fun y5=>bi (Lih y3.1) fun y7=>bi (Lii [y5,y7]) fun y9=>some ((⟨y1.1,y3.1,y9⟩:Lgh),y3.2)
def Lik(n:Int):Option Lgi:=
 some (⟨false,0,IntKind.u64.wrap (1681915904+(IntKind.u64.wrap (n)))⟩:Lgi)
def Lil(n:Int):Option Lgi:=
 some (⟨true,18230571291595767808,IntKind.u64.wrap (n)⟩:Lgi)
def Lim(s:Lgd):Option (Lgi×Lgd):=
 bi (Lgx s 6) fun y1=>bif (y1.1:Int)==0 then(bi (Lgx y1.2 5) fun y4=>bi (getZ [0,18230571291595767808,2306139568115548160,9223372036854775808,18446744073709551615] y4.1) fun x6=>bi (Lgx y4.2 5) fun y8=>bi (getZ [0,1,2,4294967296,18446744073709551615] y8.1) fun x10=>some ((⟨true,x6,x10⟩:Lgi),y8.2)) else(bif (y1.1:Int)==1 then(bi (Lgx y1.2 5) fun y14=>bi (getZ [0,1,4294967295,2130706433,3232235521] y14.1) fun x16=>some ((⟨false,0,x16⟩:Lgi),y14.2)) else(bif (y1.1:Int)==2 then(bi (Lgy y1.2 0 16777216) fun y20=>bi (remZ (IntKind.u64.wrap ((IntKind.u64.wrap (y20.1)) * 251)) 4294967296) fun y22=>some ((⟨false,0,y22⟩:Lgi),y20.2)) else(bi (Lgy y1.2 0 20) fun y25=>some ((⟨false,0,IntKind.u64.wrap (167772160+(IntKind.u64.wrap (y25.1)))⟩:Lgi),y25.2))))
def Lin(s:Lgd):Option (Lgi×Lgd):=
 bi (Lim s) fun y1=>bi (Lha y1.2 15) fun y3=>bif y3.1 then(bi (Lgx y3.2 2) fun y6=>bi (Lgx y6.2 3) fun y8=>bi (getZ [4294967296,5,1099511627776] y8.1) fun x10=>some ((⟨false,IntKind.u64.wrap (y6.1),x10⟩:Lgi),y8.2)) else(some (y1.1,y3.2))
def Lio(k:Nat)(a:Lgi):Option (Int×Int×Int×Int×Int×Int×Int×Int×Int):=
 bi (loopM (σ:=Int×Int×Int×Int×Int×Int×Int×Int×Int×Int) (ρ:=Int×Int×Int×Int×Int×Int×Int×Int×Int) (fun s2=>bif decide ((s2.2.2.2.2.2.2.2.2.2:Int)<4) then(bi (shrZ .u64 a.Lo (wi (16 * s2.2.2.2.2.2.2.2.2.2))) fun y12=>bi (getZ ([s2.1,s2.2.1,s2.2.2.1,s2.2.2.2.1,s2.2.2.2.2.1,s2.2.2.2.2.2.1,s2.2.2.2.2.2.2.1,s2.2.2.2.2.2.2.2.1,s2.2.2.2.2.2.2.2.2.1]:List Int) s2.2.2.2.2.2.2.2.2.2) fun x14=>bi (shrZ .u64 a.Hi (wi (16 * s2.2.2.2.2.2.2.2.2.2))) fun y16=>bi (getZ ([updA s2.2.2.2.2.2.2.2.2.2 0 (wi (bitsV .and .u64 y12 65535)) s2.1,updA s2.2.2.2.2.2.2.2.2.2 1 (wi (bitsV .and .u64 y12 65535)) s2.2.1,updA s2.2.2.2.2.2.2.2.2.2 2 (wi (bitsV .and .u64 y12 65535)) s2.2.2.1,updA s2.2.2.2.2.2.2.2.2.2 3 (wi (bitsV .and .u64 y12 65535)) s2.2.2.2.1,updA s2.2.2.2.2.2.2.2.2.2 4 (wi (bitsV .and .u64 y12 65535)) s2.2.2.2.2.1,updA s2.2.2.2.2.2.2.2.2.2 5 (wi (bitsV .and .u64 y12 65535)) s2.2.2.2.2.2.1,updA s2.2.2.2.2.2.2.2.2.2 6 (wi (bitsV .and .u64 y12 65535)) s2.2.2.2.2.2.2.1,updA s2.2.2.2.2.2.2.2.2.2 7 (wi (bitsV .and .u64 y12 65535)) s2.2.2.2.2.2.2.2.1,updA s2.2.2.2.2.2.2.2.2.2 8 (wi (bitsV .and .u64 y12 65535)) s2.2.2.2.2.2.2.2.2.1]:List Int) (wi (4+s2.2.2.2.2.2.2.2.2.2))) fun x18=>some (.go (updA (wi (4+s2.2.2.2.2.2.2.2.2.2)) 0 (wi (bitsV .and .u64 y16 65535)) (updA s2.2.2.2.2.2.2.2.2.2 0 (wi (bitsV .and .u64 y12 65535)) s2.1),updA (wi (4+s2.2.2.2.2.2.2.2.2.2)) 1 (wi (bitsV .and .u64 y16 65535)) (updA s2.2.2.2.2.2.2.2.2.2 1 (wi (bitsV .and .u64 y12 65535)) s2.2.1),updA (wi (4+s2.2.2.2.2.2.2.2.2.2)) 2 (wi (bitsV .and .u64 y16 65535)) (updA s2.2.2.2.2.2.2.2.2.2 2 (wi (bitsV .and .u64 y12 65535)) s2.2.2.1),updA (wi (4+s2.2.2.2.2.2.2.2.2.2)) 3 (wi (bitsV .and .u64 y16 65535)) (updA s2.2.2.2.2.2.2.2.2.2 3 (wi (bitsV .and .u64 y12 65535)) s2.2.2.2.1),updA (wi (4+s2.2.2.2.2.2.2.2.2.2)) 4 (wi (bitsV .and .u64 y16 65535)) (updA s2.2.2.2.2.2.2.2.2.2 4 (wi (bitsV .and .u64 y12 65535)) s2.2.2.2.2.1),updA (wi (4+s2.2.2.2.2.2.2.2.2.2)) 5 (wi (bitsV .and .u64 y16 65535)) (updA s2.2.2.2.2.2.2.2.2.2 5 (wi (bitsV .and .u64 y12 65535)) s2.2.2.2.2.2.1),updA (wi (4+s2.2.2.2.2.2.2.2.2.2)) 6 (wi (bitsV .and .u64 y16 65535)) (updA s2.2.2.2.2.2.2.2.2.2 6 (wi (bitsV .and .u64 y12 65535)) s2.2.2.2.2.2.2.1),updA (wi (4+s2.2.2.2.2.2.2.2.2.2)) 7 (wi (bitsV .and .u64 y16 65535)) (updA s2.2.2.2.2.2.2.2.2.2 7 (wi (bitsV .and .u64 y12 65535)) s2.2.2.2.2.2.2.2.1),updA (wi (4+s2.2.2.2.2.2.2.2.2.2)) 8 (wi (bitsV .and .u64 y16 65535)) (updA s2.2.2.2.2.2.2.2.2.2 8 (wi (bitsV .and .u64 y12 65535)) s2.2.2.2.2.2.2.2.2.1),wi (s2.2.2.2.2.2.2.2.2.2+1)))) else(some (.out (s2.1,s2.2.1,s2.2.2.1,s2.2.2.2.1,s2.2.2.2.2.1,s2.2.2.2.2.2.1,s2.2.2.2.2.2.2.1,s2.2.2.2.2.2.2.2.1,s2.2.2.2.2.2.2.2.2.1)))) k (0,0,0,0,0,0,0,0,0,0)) fun q4=>bi (bif a.Six then(some 1) else(some q4.2.2.2.2.2.2.2.2)) fun q21=>some (q4.1,q4.2.1,q4.2.2.1,q4.2.2.2.1,q4.2.2.2.2.1,q4.2.2.2.2.2.1,q4.2.2.2.2.2.2.1,q4.2.2.2.2.2.2.2.1,q21)
def Lip(a:Lgi):Option Int:=
 bif a.Six then(some 128) else(some 32)
def Liq(k:Nat)(a:Lgi)(bits:Int):Option (Int×Int×Int×Int×Int×Int×Int×Int×Int):=
 bi (Lio k a) fun y1=>bi (Lip a) fun y3=>bi (gd (decide ((wi (y3 - bits))≤9223372036854775807)) (rangeG (σ:=Int×Int×Int×Int×Int×Int×Int×Int×Int) (fun i5 s6=>bi (divZ .i64 (i5:Int) 16) fun y17=>bi (getZ ([s6.1,s6.2.1,s6.2.2.1,s6.2.2.2.1,s6.2.2.2.2.1,s6.2.2.2.2.2.1,s6.2.2.2.2.2.2.1,s6.2.2.2.2.2.2.2.1,s6.2.2.2.2.2.2.2.2]:List Int) y17) fun x19=>bi (remZ (i5:Int) 16) fun y21=>bi (shlZ .i64 1 y21) fun y23=>bi (getZ ([s6.1,s6.2.1,s6.2.2.1,s6.2.2.2.1,s6.2.2.2.2.1,s6.2.2.2.2.2.1,s6.2.2.2.2.2.2.1,s6.2.2.2.2.2.2.2.1,s6.2.2.2.2.2.2.2.2]:List Int) y17) fun x25=>some (updA y17 0 (bitsV .andNot .i64 x19 y23) s6.1,updA y17 1 (bitsV .andNot .i64 x19 y23) s6.2.1,updA y17 2 (bitsV .andNot .i64 x19 y23) s6.2.2.1,updA y17 3 (bitsV .andNot .i64 x19 y23) s6.2.2.2.1,updA y17 4 (bitsV .andNot .i64 x19 y23) s6.2.2.2.2.1,updA y17 5 (bitsV .andNot .i64 x19 y23) s6.2.2.2.2.2.1,updA y17 6 (bitsV .andNot .i64 x19 y23) s6.2.2.2.2.2.2.1,updA y17 7 (bitsV .andNot .i64 x19 y23) s6.2.2.2.2.2.2.2.1,updA y17 8 (bitsV .andNot .i64 x19 y23) s6.2.2.2.2.2.2.2.2)) (wi (y3 - bits)) (y1.1,y1.2.1,y1.2.2.1,y1.2.2.2.1,y1.2.2.2.2.1,y1.2.2.2.2.2.1,y1.2.2.2.2.2.2.1,y1.2.2.2.2.2.2.2.1,y1.2.2.2.2.2.2.2.2))) fun q8=>some (q8.1,q8.2.1,q8.2.2.1,q8.2.2.2.1,q8.2.2.2.2.1,q8.2.2.2.2.2.1,q8.2.2.2.2.2.2.1,q8.2.2.2.2.2.2.2.1,q8.2.2.2.2.2.2.2.2)
def Lir(k:Nat)(w:(Int×Int×Int×Int×Int×Int×Int×Int×Int)):Option Lgi:=
 bi (loopM (σ:=Lgi×Int) (ρ:=Lgi) (fun s2=>bif decide ((s2.2:Int)<4) then(bi (getZ ([w.1,w.2.1,w.2.2.1,w.2.2.2.1,w.2.2.2.2.1,w.2.2.2.2.2.1,w.2.2.2.2.2.2.1,w.2.2.2.2.2.2.2.1,w.2.2.2.2.2.2.2.2]:List Int) s2.2) fun x12=>bi (shlZ .u64 (IntKind.u64.wrap (x12)) (wi (16 * s2.2))) fun y14=>bi (getZ ([w.1,w.2.1,w.2.2.1,w.2.2.2.1,w.2.2.2.2.1,w.2.2.2.2.2.1,w.2.2.2.2.2.2.1,w.2.2.2.2.2.2.2.1,w.2.2.2.2.2.2.2.2]:List Int) (wi (4+s2.2))) fun x16=>bi (shlZ .u64 (IntKind.u64.wrap (x16)) (wi (16 * s2.2))) fun y18=>some (.go ((⟨s2.1.Six,bitsV .or .u64 s2.1.Hi y18,bitsV .or .u64 s2.1.Lo y14⟩:Lgi),wi (s2.2+1)))) else(some (.out s2.1))) k ((⟨false,0,0⟩:Lgi),0)) fun q4=>some (⟨decide ((w.2.2.2.2.2.2.2.2:Int)>0),q4.Hi,q4.Lo⟩:Lgi)
def Lis(k:Nat)(a:Lgi)(bits:Int):Option Lgj:=
 bi (Liq k a bits) fun y1=>bi (Lir k y1) fun y3=>some (⟨y3,bits⟩:Lgj)
def Liu(k:Nat)(s:Lgd):Option (Lgj×Lgd):=
 bi (Lim s) fun y1=>bi (Lgz y1.2 [0,8,24,27,28,29,30,31,32]) fun y3=>bi (bif y1.1.Six then(bi (Lgz y3.2 [0,8,32,48,63,64,65,96,127,128]) fun y8=>some (y8.2,y8.1)) else(some (y3.2,y3.1))) fun q5=>bi (Lis k y1.1 q5.2) fun y11=>some (y11,q5.1)
def Liv(s:Lgd)(low:Int)(high:Int):Option (Int×Lgd):=
 bi (Lha s 12) fun y1=>bif y1.1 then(bi (Lgz y1.2 [wi (low - 1),wi (high+1),low,high,-1099511627776,1099511627776]) fun y4=>some (y4.1,y4.2)) else(bi (Lgy y1.2 low high) fun y7=>some (y7.1,y7.2))
def Liw(k:Nat)(s:Lgd):Option (Lgj×Lgd):=
 bi (Liu k s) fun y1=>bi (Lha y1.2 15) fun y3=>bi (bif y3.1 then(bi (Lin y3.2) fun y8=>bi (Liv y8.2 0 33) fun y10=>some (y10.2,(⟨y8.1,y10.1⟩:Lgj))) else(some (y3.2,y1.1))) fun q5=>some (q5.2,q5.1)
def Lix(k:Nat)(s:Lgd)(al:BagT):Option ((List Lgk)×Lgd×BagT):=
 bi (rangeF (σ:=Lgd×BagT×(List Lgk)) (fun i1 x3 s2=>bi (Lha s2.1 6) fun y12=>bif y12.1 then(some (y12.2,s2.2.1,s2.2.2)) else(bi (Lik (wi ((i1:Int)+1))) fun y16=>bi (Lha y12.2 3) fun y18=>bi (bif y18.1 then(bi (Lil (wi ((i1:Int)+1))) fun y23=>bi (appT s2.2.1.1 (1,[y16]) [y23]) fun y25=>some ((y25.2,s2.2.1.2.1,s2.2.1.2.2.1,s2.2.1.2.2.2.1,s2.2.1.2.2.2.2.1,s2.2.1.2.2.2.2.2),y25.1)) else(some (s2.2.1,(1,[y16])))) fun q20=>bi (Lha y18.2 2) fun y28=>bi (bif y28.1 then(bi (Lgz y28.2 [8,16]) fun y33=>bi (appT q20.1.1 (1,[]) [(⟨(⟨false,0,167772160⟩:Lgi),y33.1⟩:Lgj)]) fun y35=>some (y33.2,(y35.2,q20.1.2.1,q20.1.2.2.1,q20.1.2.2.2.1,q20.1.2.2.2.2.1,q20.1.2.2.2.2.2),y35.1)) else(some (y28.2,q20.1,(1,[])))) fun q30=>bi (Lha q30.1 5) fun y38=>bi (bif y38.1 then(bi (appT q30.2.1.1 q30.2.2 [(⟨(⟨false,0,0⟩:Lgi),0⟩:Lgj)]) fun y43=>some ((y43.2,q30.2.1.2.1,q30.2.1.2.2.1,q30.2.1.2.2.2.1,q30.2.1.2.2.2.2.1,q30.2.1.2.2.2.2.2),y43.1)) else(some (q30.2.1,q30.2.2))) fun q40=>bi (apd s2.2.2 [(⟨x3,q20.2,q40.2⟩:Lgk)]) fun y46=>some (y38.2,q40.1,y46))) 0 [[110,97],[110,98],[110,99],[110,100]] (s,al,([]:List Lgk))) fun q4=>bi (bif decide (((q4.2.2.length:Int):Int)>0) then(bi (Lha q4.1 20) fun y51=>some (y51.2,y51.1)) else(some (q4.1,false))) fun q48=>bi (bif q48.2 then(bi (Lgx q48.1 (q4.2.2.length:Int)) fun y57=>bi (getZ q4.2.2 y57.1) fun x59=>bi (Lgx y57.2 3) fun y62=>bif (y62.1:Int)==0 then(bi (Lhc y62.2 [[],[110,97]]) fun y65=>some (y65.2,q4.2.1,q4.2.2.set y57.1.toNat (⟨y65.1,x59.Addrs,x59.Routes⟩:Lgk))) else(bif (y62.1:Int)==1 then(bi (Lin y62.2) fun y69=>bi (Lik 1) fun y71=>bi (appT q4.2.1.1 x59.Addrs [y69.1,y71]) fun y73=>some (y69.2,(y73.2,q4.2.1.2.1,q4.2.1.2.2.1,q4.2.1.2.2.2.1,q4.2.1.2.2.2.2.1,q4.2.1.2.2.2.2.2),q4.2.2.set y57.1.toNat (⟨x59.Node,y73.1,x59.Routes⟩:Lgk))) else(bi (Liw k y62.2) fun y76=>bi (appT q4.2.1.1 x59.Routes [y76.1,(⟨(⟨false,0,0⟩:Lgi),0⟩:Lgj)]) fun y78=>some (y76.2,(y78.2,q4.2.1.2.1,q4.2.1.2.2.1,q4.2.1.2.2.2.1,q4.2.1.2.2.2.2.1,q4.2.1.2.2.2.2.2),q4.2.2.set y57.1.toNat (⟨x59.Node,x59.Addrs,y78.1⟩:Lgk))))) else(some (q48.1,q4.2.1,q4.2.2))) fun q54=>some (q54.2.2,q54.1,q54.2.1)
def Liy(s:Lgd):Option (Int×Lgd):=
 bi (Lgx s 300) fun y1=>bi (Lgx y1.2 300) fun y3=>bi (Lgz y3.2 [345686399,-1,345686400]) fun y5=>bi (Lgz y5.2 [0,5,20,40,60,80,120,y1.1,y3.1,y5.1]) fun y7=>some (y7.1,y7.2)
def Liz(k:Nat)(s:Str):Option Bool:=
 bi (loopM (σ:=Int) (ρ:=Unit ⊕ Bool) (fun s2=>bif decide ((s2:Int)<(s.length:Int)) then(bi (getZ s s2) fun c12=>bif !(((decide (((c12.toNat:Int):Int)≥97))&&(decide (((c12.toNat:Int):Int)≤122)))||((decide ((s2:Int)>0))&&((((decide (((c12.toNat:Int):Int)≥48))&&(decide (((c12.toNat:Int):Int)≤57)))||(((c12.toNat:Int):Int)==45))||(((c12.toNat:Int):Int)==95)))) then(bi (some false) fun v=>some (.out (.inr v))) else(some (.go (wi (s2+1))))) else(some (.out (.inl ())))) k 0) fun q=>orI q fun a6=>some ((!((s:Str)==[]))&&(decide (((s.length:Int):Int)≤40)))
def Lja(k:Nat)(l:List Str):Option Int:=
 bi (rangeM (σ:=Unit) (ρ:=Int) (fun i1 x3 s2=>bi (Liz k x3) fun y12=>bif !y12 then(bi (some 5) fun v=>some (.out v)) else(bi (bif decide (((i1:Int):Int)>0) then(bi (getZ l (wi ((i1:Int) - 1))) fun x21=>some (Op.bytesLess x3 x21||(x3:Str)==x21)) else(some false)) fun q18=>bif q18 then(bi (some 7) fun v=>some (.out v)) else(some (.go ())))) 0 l ()) fun q=>goI q fun a6=>some 0
def Ljb(n:Int)(low:Int)(high:Int):Option Bool:=
 some ((decide ((n:Int)<low))||(decide ((n:Int)>high)))
def Ljc(k:Nat)(d:Lgf):Option Int:=
 bif decide (((d.Users.length:Int):Int)>200) then(some 2) else(bi (Lja k d.Users) fun y3=>bif (y3:Int) != 0 then(some y3) else(bif decide (((d.Owners.length:Int):Int)>100) then(some 2) else(bi (rangeM (σ:=Unit) (ρ:=Int) (fun i9 x11 s10=>bi (Liz k x11.Tag) fun y20=>bif !y20 then(bi (some 5) fun v=>some (.out v)) else(bi (bif decide (((i9:Int):Int)>0) then(bi (getZ d.Owners (wi ((i9:Int) - 1))) fun x29=>some (Op.bytesLess x11.Tag x29.Tag||(x11.Tag:Str)==x29.Tag)) else(some false)) fun q26=>bif q26 then(bi (some 7) fun v=>some (.out v)) else(bi (rangeM (σ:=Unit) (ρ:=LS Unit Int) (fun i36 x38 s37=>bi (Lhu d.Users x38) fun y47=>bif !y47 then(bi (bi (some 8) fun v=>some (.out v)) fun v=>some (.out v)) else(bi (bif decide (((i36:Int):Int)>0) then(bi (getZ x11.Users (wi ((i36:Int) - 1))) fun x58=>some (Op.bytesLess x38 x58||(x38:Str)==x58)) else(some false)) fun q55=>bif q55 then(bi (bi (some 7) fun v=>some (.out v)) fun v=>some (.out v)) else(some (.go ())))) 0 x11.Users ()) fun q=>goI q fun a41=>some (.go ())))) 0 d.Owners ()) fun q=>goI q fun a14=>bi (Ljb d.Life 1 345686400) fun y67=>bif y67 then(some 1) else(some 0))))
def Ljd(n:Int):Option Bool:=
 some ((decide ((n:Int)≥0))&&(decide ((n:Int)<345686400)))
def Lje(kind:Int):Option (List Int):=
 bif (kind:Int)==1 then(some [0,2,5,6,7,8]) else(bif (kind:Int)==2 then(some [0,2]) else(bif (kind:Int)==3 then(some [0,1,2,3,4]) else(bif (kind:Int)==5 then(some [0,1,3]) else(bif (kind:Int)==6 then(some [0,1,4]) else(bif (kind:Int)==7 then(some [0,1,5]) else(some [0,1]))))))
def Ljf(k:Nat)(s:Str)(empty:Bool):Option Int:=
 bi (Liz k s) fun y1=>bif ((!y1)&&(!(empty&&((s:Str)==[])))) then(some 5) else(some 0)
def Ljg(s:Str):Option Bool:=
 bi (bif ((!((s:Str)==[]))&&(decide (((s.length:Int):Int)≤20))) then(bi (Kzm s [48,49,50,51,52,53,54,55,56,57,97,98,99,100,101,102]) fun y4=>some ((y4:Str)==[])) else(some false)) fun q1=>some q1
def Ljh(k:Nat)(l:List Str):Option Int:=
 bif decide (((l.length:Int):Int)>10) then(some 2) else(bi (Lja k l) fun y3=>some y3)
def Lji(n:Int):Option Int:=
 bi (Ljb n 0 999999999) fun y1=>bif y1 then(some 1) else(some 0)
def Ljj(k:Nat)(s:Lgg)(field:Int):Option Int:=
 bi (bif (field:Int)==0 then(bi (Ljf k s.By ((s.Kind:Int)==3)) fun y5=>bi (some y5) fun v=>some (.inr v)) else(bif (field:Int)==1 then(bi (Ljf k s.Node false) fun y11=>bi (some y11) fun v=>some (.inr v)) else(bif (field:Int)==2 then(bi (Ljf k s.Join ((s.Kind:Int)==3)) fun y17=>bi (some y17) fun v=>some (.inr v)) else(bif (field:Int)==3 then(bi (Ljg s.Public) fun y23=>bif !y23 then(bi (some 5) fun v=>some (.inr v)) else(some (.inl ()))) else(bif (field:Int)==4 then(bi (Ljf k s.Name false) fun y31=>bi (some y31) fun v=>some (.inr v)) else(bif (field:Int)==5 then(bi (Ljh k s.Tags) fun y37=>bi (some y37) fun v=>some (.inr v)) else(bif (field:Int)==6 then(bi (Lji s.Until) fun y43=>bi (some y43) fun v=>some (.inr v)) else(bif (field:Int)==7 then(bi (Lji s.Uses) fun y49=>bi (some y49) fun v=>some (.inr v)) else(some (.inl ()))))))))):Option (Unit ⊕ Int)) fun q=>orI q fun a3=>some 0
def Ljk(s:List Int)(v:Int):Option Int:=
 bi (rangeM (σ:=Unit) (ρ:=Int) (fun i1 x3 s2=>bif (v:Int)==x3 then(bi (some (i1:Int)) fun v=>some (.out v)) else(some (.go ()))) 0 s ()) fun q=>goI q fun a6=>some (-1)
def Ljl(s:List Int)(v:Int):Option Bool:=
 bi (Ljk s v) fun y1=>some (decide ((y1:Int)≥0))
def Ljm(s:Lgg)(field:Int):Option Bool:=
 bif (field:Int)==0 then(some ((s.By:Str)==[])) else(bif (field:Int)==1 then(some ((s.Node:Str)==[])) else(bif (field:Int)==2 then(some ((s.Join:Str)==[])) else(bif (field:Int)==3 then(some ((s.Public:Str)==[])) else(bif (field:Int)==4 then(some ((s.Name:Str)==[])) else(bif (field:Int)==5 then(some (((s.Tags.length:Int):Int)==0)) else(bif (field:Int)==6 then(some ((s.Until:Int)==0)) else(bif (field:Int)==7 then(some ((s.Uses:Int)==0)) else(some (!s.Ready)))))))))
def Ljn(k:Nat)(s:Lgg):Option Int:=
 bi (Ljd s.At) fun y1=>bif !y1 then(some 1) else(bi (Liz k s.Server) fun y5=>bif !y5 then(some 5) else(bi (Ljb s.No 1 1000000) fun y9=>bif y9 then(some 1) else(bi (Ljb s.Kind 1 9) fun y13=>bif y13 then(some 4) else(bi (Lje s.Kind) fun y17=>bi (rangeM (σ:=Unit) (ρ:=Int) (fun i19 x21 s20=>bi (Ljj k s x21) fun y30=>bif (y30:Int) != 0 then(bi (some y30) fun v=>some (.out v)) else(some (.go ()))) 0 y17 ()) fun q=>goI q fun a24=>bi (loopM (σ:=Int) (ρ:=Unit ⊕ Int) (fun s37=>bif decide ((s37:Int)<9) then(bi (Ljl y17 s37) fun y47=>bi (bif !y47 then(bi (Ljm s s37) fun y52=>some (!y52)) else(some false)) fun q49=>bif q49 then(bi (some 3) fun v=>some (.out (.inr v))) else(some (.go (wi (s37+1))))) else(some (.out (.inl ())))) k 0) fun q=>orI q fun a41=>some 0))))
def Ljo(a:Lgg)(b:Lgg):Option Int:=
 bi (Lhi a.At b.At) fun y1=>bi (Kzt a.Server b.Server) fun y3=>bi (Lhi a.No b.No) fun y5=>bi (Lhj [y1,y3,y5]) fun y7=>some y7
def Ljp(s:Lgg):Option Lgl:=
 some (⟨s.Server,s.No⟩:Lgl)
def Ljq(k:Nat)(l:List Lgg):Option Int:=
 bif decide (((l.length:Int):Int)>2000) then(some 2) else(bi (rangeM (σ:=List (Lgl×Bool)) (ρ:=Int) (fun i3 x5 s4=>bi (Ljn k x5) fun y14=>bif (y14:Int) != 0 then(bi (some y14) fun v=>some (.out v)) else(bi (bif decide (((i3:Int):Int)>0) then(bi (getZ l (wi ((i3:Int) - 1))) fun x23=>bi (Ljo x23 x5) fun y25=>some (decide ((y25:Int)≥0))) else(some false)) fun q20=>bif q20 then(bi (some 7) fun v=>some (.out v)) else(bi (Ljp x5) fun y32=>bif ((mGet s4 y32).getD false) then(bi (some 6) fun v=>some (.out v)) else(bi (Ljp x5) fun y38=>some (.go (mSet s4 y38 true)))))) 0 l ([]:List (Lgl×Bool))) fun q=>goI q fun a8=>some 0)
def Ljr(k:Nat)(d:Lgf)(l:List Lgg):Option Int:=
 bi (Ljc k d) fun y1=>bif (y1:Int) != 0 then(some y1) else(bi (Ljq k l) fun y5=>some y5)
def Ljs(a:Lgi):Option Int:=
 bif ((!a.Six)&&(((a.Hi:Int) != 0)||(decide ((a.Lo:Int)≥4294967296)))) then(some 3) else(some 0)
def Ljt(a:Lgi):Option Int:=
 bif a.Six then(some 128) else(some 32)
def Lju(n:Int):Option (Int×Int):=
 bif decide ((n:Int)≥128) then(some (18446744073709551615,18446744073709551615)) else(bif decide ((n:Int)>64) then(bi (shlZ .u64 1 (wi (n - 64))) fun y4=>some (IntKind.u64.wrap (y4 - 1),18446744073709551615)) else(bif (n:Int)==64 then(some (0,18446744073709551615)) else(bi (shlZ .u64 1 n) fun y9=>some (0,IntKind.u64.wrap (y9 - 1)))))
def Ljv(a:Lgi)(n:Int):Option Lgi:=
 bi (Ljt a) fun y1=>bi (Lju (wi (y1 - n))) fun y3=>some (⟨a.Six,bitsV .andNot .u64 a.Hi y3.1,bitsV .andNot .u64 a.Lo y3.2⟩:Lgi)
def Ljw(p:Lgj):Option Int:=
 bi (Ljs p.Addr) fun y1=>bif (y1:Int) != 0 then(some 3) else(bi (Ljt p.Addr) fun y5=>bi (Ljb p.Bits 0 y5) fun y7=>bif y7 then(some 1) else(bi (Ljv p.Addr p.Bits) fun y11=>bif !(((y11.Six:Bool)==p.Addr.Six)&&(((y11.Hi:Int)==p.Addr.Hi)&&(((y11.Lo:Int)==p.Addr.Lo)&&true))) then(some 3) else(some 0)))
def Ljx(s:List Lgj)(v:Lgj):Option Int:=
 bi (rangeM (σ:=Unit) (ρ:=Int) (fun i1 x3 s2=>bif ((((v.Addr.Six:Bool)==x3.Addr.Six)&&(((v.Addr.Hi:Int)==x3.Addr.Hi)&&(((v.Addr.Lo:Int)==x3.Addr.Lo)&&true)))&&(((v.Bits:Int)==x3.Bits)&&true)) then(bi (some (i1:Int)) fun v=>some (.out v)) else(some (.go ()))) 0 s ()) fun q=>goI q fun a6=>some (-1)
def Ljy(s:List Lgj)(v:Lgj):Option Bool:=
 bi (Ljx s v) fun y1=>some (decide ((y1:Int)≥0))
def Ljz(k:Nat)(l:List Lgk):Option Int:=
 bif decide (((l.length:Int):Int)>500) then(some 2) else(bi (rangeM (σ:=List (Lgi×Bool)) (ρ:=Int) (fun i3 x5 s4=>bi (Liz k x5.Node) fun y14=>bif !y14 then(bi (some 5) fun v=>some (.out v)) else(bi (bif decide (((i3:Int):Int)>0) then(bi (getZ l (wi ((i3:Int) - 1))) fun x23=>some (Op.bytesLess x5.Node x23.Node||(x5.Node:Str)==x23.Node)) else(some false)) fun q20=>bif q20 then(bi (some 7) fun v=>some (.out v)) else(bif decide (((x5.Addrs.2.length:Int):Int)>4) then(bi (some 2) fun v=>some (.out v)) else(bi (rangeM (σ:=List (Lgi×Bool)) (ρ:=LS (List (Lgi×Bool)) Int) (fun i34 x36 s35=>bi (Ljs x36) fun y45=>bif (y45:Int) != 0 then(bi (bi (some y45) fun v=>some (.out v)) fun v=>some (.out v)) else(bif ((mGet s35 x36).getD false) then(bi (bi (some 13) fun v=>some (.out v)) fun v=>some (.out v)) else(some (.go (mSet s35 x36 true))))) 0 x5.Addrs.2 s4) fun q=>goI q fun a39=>bif decide (((x5.Routes.2.length:Int):Int)>20) then(bi (some 2) fun v=>some (.out v)) else(bi (rangeM (σ:=Unit) (ρ:=LS (List (Lgi×Bool)) Int) (fun i63 x65 s64=>bi (Ljw x65) fun y74=>bif (y74:Int) != 0 then(bi (bi (some y74) fun v=>some (.out v)) fun v=>some (.out v)) else(bi (subZ x5.Routes.2 0 (i63:Int)) fun z82=>bi (Ljy z82 x65) fun y84=>bif y84 then(bi (bi (some 6) fun v=>some (.out v)) fun v=>some (.out v)) else(some (.go ())))) 0 x5.Routes.2 ()) fun q=>goI q fun a68=>some (.go a39)))))) 0 l ([]:List (Lgi×Bool))) fun q=>goI q fun a8=>some 0)
def Lka(d:Lgf):Option Lgp:=
 bi (rangeF (σ:=List (Str×Bool)) (fun i1 x3 s2=>some (mSet s2 x3 true)) 0 d.Users ([]:List (Str×Bool))) fun q4=>some (⟨d,q4,([]:List (Str×Nat)),([]:List (Str×Lgn)),([]:List (Str×(Tl Lgo)))⟩:Lgp)
def Lkb(p:Nat)(v_at:Int)(al:BagT):Option Int:=
 bif (p==0) then(some 0) else(gd (Nat.blt 0 p) (bi (hGet al.2.1 p) fun m5=>bi (bif m5.revoked then(some true) else(gd (Nat.blt 0 p) (bi (hGet al.2.1 p) fun m13=>some (decide ((v_at:Int)≥m13.Join.Until))))) fun q7=>bif q7 then(some 11) else(gd (Nat.blt 0 p) (bi (hGet al.2.1 p) fun m19=>gd (Nat.blt 0 p) (bi (hGet al.2.1 p) fun m23=>bif decide ((m19.used:Int)≥m23.Join.Left) then(some 12) else(some 0))))))
def Lkc(n:Lgp)(v_public:Str):Option Bool:=
 bi (rangePM (σ:=Unit) (ρ:=Bool) (fun x8 s7=>bif (x8.2.Public:Str)==v_public then(bi (some true) fun v=>some (.out v)) else(some (.go ()))) n.there ()) fun q=>goI q fun s7=>some false
def Lkd(s:List Str):Option (List Str):=
 bi (apd ([]:List Str) s) fun y1=>some y1
def Lke(n:Lgp)(v_at:Int)(user:Str):Option Int:=
 bif (user:Str)==[] then(some 345686400) else(some (if (wi (v_at+n.d.Life))<345686400 then wi (v_at+n.d.Life) else 345686400))
def Lkf(n:Lgp)(v_at:Int)(m:Lgn)(key:Bool)(al:BagT):Option (Lgp×BagT):=
 bi (appT al.1 ((mGet n.story m.Node).getD (1,[])) [(⟨v_at,m,false,key⟩:Lgo)]) fun y1=>some ((⟨n.d,n.users,n.passes,(mSet n.there m.Node m),(mSet n.story m.Node y1.1)⟩:Lgp),(y1.2,al.2.1,al.2.2.1,al.2.2.2.1,al.2.2.2.2.1,al.2.2.2.2.2))
def Lkg(n:Lgp)(s:Lgg)(al:BagT):Option (Int×Lgp×BagT):=
 bif ((s.By:Str)==[]:Bool)==((s.Join:Str)==[]) then(some (3,n,al)) else(bi (bif !((s.By:Str)==[]) then(bif !((mGet n.users s.By).getD false) then(some true) else(bif (s.By:Str)==[] then(some (((mGet n.passes s.Join).getD 0)==0)) else(some false))) else(bif (s.By:Str)==[] then(some (((mGet n.passes s.Join).getD 0)==0)) else(some false))) fun q3=>bif q3 then(some (8,n,al)) else(bi (Lkb ((mGet n.passes s.Join).getD 0) s.At al) fun y15=>bif (y15:Int) != 0 then(some (y15,n,al)) else(bi (isNilT ((mGet n.story s.Node).getD (1,[]))) fun b19=>bif !b19 then(some (6,n,al)) else(bi (Lkc n s.Public) fun y23=>bif y23 then(some (13,n,al)) else(bif decide (((n.there.length:Int):Int)≥500) then(some (2,n,al)) else(bi (bif !(((mGet n.passes s.Join).getD 0)==0) then(gd (Nat.blt 0 ((mGet n.passes s.Join).getD 0)) (bi (hGet al.2.1 ((mGet n.passes s.Join).getD 0)) fun m34=>gd (Nat.blt 0 ((mGet n.passes s.Join).getD 0)) (bi (hGet al.2.1 ((mGet n.passes s.Join).getD 0)) fun m38=>gd (Nat.blt 0 ((mGet n.passes s.Join).getD 0)) (bi (hGet (hSet al.2.1 ((mGet n.passes s.Join).getD 0) (⟨m38.Join,m38.revoked,wi (m34.used+1)⟩:Lgr)) ((mGet n.passes s.Join).getD 0)) fun m42=>bi (Lkd m42.Join.Tags) fun y44=>gd (Nat.blt 0 ((mGet n.passes s.Join).getD 0)) (bi (hGet (hSet al.2.1 ((mGet n.passes s.Join).getD 0) (⟨m38.Join,m38.revoked,wi (m34.used+1)⟩:Lgr)) ((mGet n.passes s.Join).getD 0)) fun m48=>bi (bif ((m48.Join.Tags.length:Int):Int)==0 then(gd (Nat.blt 0 ((mGet n.passes s.Join).getD 0)) (bi (hGet (hSet al.2.1 ((mGet n.passes s.Join).getD 0) (⟨m38.Join,m38.revoked,wi (m34.used+1)⟩:Lgr)) ((mGet n.passes s.Join).getD 0)) fun m55=>some m55.Join.By)) else(some s.By)) fun q50=>bi (bif !n.d.Approve then(some true) else(gd (Nat.blt 0 ((mGet n.passes s.Join).getD 0)) (bi (hGet (hSet al.2.1 ((mGet n.passes s.Join).getD 0) (⟨m38.Join,m38.revoked,wi (m34.used+1)⟩:Lgr)) ((mGet n.passes s.Join).getD 0)) fun m64=>some m64.Join.Ready))) fun q58=>some ((al.1,(hSet al.2.1 ((mGet n.passes s.Join).getD 0) (⟨m38.Join,m38.revoked,wi (m34.used+1)⟩:Lgr)),al.2.2.1,al.2.2.2.1,al.2.2.2.2.1,al.2.2.2.2.2),(⟨s.Node,q50,s.Name,s.Public,y44,s.At,0,q58⟩:Lgn))))))) else(some (al,(⟨s.Node,s.By,s.Name,s.Public,[],s.At,0,!n.d.Approve⟩:Lgn)))) fun q29=>bi (Lke n s.At q29.2.User) fun y67=>bi (Lkf n s.At (⟨q29.2.Node,q29.2.User,q29.2.Name,q29.2.Public,q29.2.Tags,q29.2.Joined,y67,q29.2.Approved⟩:Lgn) true q29.1) fun y69=>some (0,y69.1,y69.2)))))))
def Lkh(o:Lge)(x:Str):Option Bool:=
 some ((o.Tag:Str)==x)
def Lki(s:List Lge)(f:Str):Option Int:=
 bi (rangeM (σ:=Unit) (ρ:=Int) (fun i1 x3 s2=>bi (Lkh x3 f) fun y12=>bif y12 then(bi (some (i1:Int)) fun v=>some (.out v)) else(some (.go ()))) 0 s ()) fun q=>goI q fun a6=>some (-1)
def Lkj(d:Lgf)(user:Str)(tag:Str):Option (Bool×Bool):=
 bi (Lki d.Owners tag) fun y1=>bi (bif decide ((y1:Int)≥0) then(bi (getZ d.Owners y1) fun x6=>bi (Lhu x6.Users user) fun y8=>some y8) else(some false)) fun q3=>some (q3,decide ((y1:Int)≥0))
def Lkk(n:Lgp)(user:Str)(tags:List Str):Option Int:=
 bi (rangeM (σ:=Unit) (ρ:=Int) (fun i1 x3 s2=>bi (Lkj n.d user x3) fun y12=>bif !y12.2 then(bi (some 8) fun v=>some (.out v)) else(bif !y12.1 then(bi (some 16) fun v=>some (.out v)) else(some (.go ())))) 0 tags ()) fun q=>goI q fun a6=>some 0
def Lkl(n:Lgp)(s:Lgg)(al:BagT):Option (Int×Lgp×BagT):=
 bif !(((mGet n.passes s.Join).getD 0)==0) then(some (6,n,al)) else(bi (Ljb s.Uses 1 1000) fun y3=>bi (bif y3 then(some true) else(bi (Ljb s.Until (wi (s.At+1)) 345686400) fun y9=>some y9)) fun q5=>bif q5 then(some (1,n,al)) else(bi (Lkk n s.By s.Tags) fun y13=>bif (y13:Int) != 0 then(some (y13,n,al)) else(bi (Lkd s.Tags) fun y17=>some (0,(⟨n.d,n.users,(mSet n.passes s.Join (al.1.length+1)),n.there,n.story⟩:Lgp),((al.1++[false]),((al.1.length,(⟨(⟨s.Join,s.By,y17,s.Until,s.Uses,s.Ready⟩:Lgq),false,0⟩:Lgr)) :: al.2.1),al.2.2.1,al.2.2.2.1,al.2.2.2.2.1,al.2.2.2.2.2)))))
def Lkm(n:Lgp)(s:Lgg)(al:BagT):Option (Int×BagT):=
 bif (((mGet n.passes s.Join).getD 0)==0) then(some (8,al)) else(gd (Nat.blt 0 ((mGet n.passes s.Join).getD 0)) (bi (hGet al.2.1 ((mGet n.passes s.Join).getD 0)) fun m5=>bif !((m5.Join.By:Str)==s.By) then(some (16,al)) else(gd (Nat.blt 0 ((mGet n.passes s.Join).getD 0)) (bi (hGet al.2.1 ((mGet n.passes s.Join).getD 0)) fun m11=>bif m11.revoked then(some (11,al)) else(gd (Nat.blt 0 ((mGet n.passes s.Join).getD 0)) (bi (hGet al.2.1 ((mGet n.passes s.Join).getD 0)) fun m17=>some (0,(al.1,(hSet al.2.1 ((mGet n.passes s.Join).getD 0) (⟨m17.Join,true,m17.used⟩:Lgr)),al.2.2.1,al.2.2.2.1,al.2.2.2.2.1,al.2.2.2.2.2))))))))
def Lkn(t:Str)(x:Lgp)(x2:Str):Option Bool:=
 bi (Lkj x.d x2 t) fun y1=>some y1.1
def Lko(s:List Str)(f:Lgp)(f2:Str):Option Int:=
 bi (rangeM (σ:=Unit) (ρ:=Int) (fun i1 x3 s2=>bi (Lkn x3 f f2) fun y12=>bif y12 then(bi (some (i1:Int)) fun v=>some (.out v)) else(some (.go ()))) 0 s ()) fun q=>goI q fun a6=>some (-1)
def Lkp(s:List Str)(f:Lgp)(f2:Str):Option Bool:=
 bi (Lko s f f2) fun y1=>some (decide ((y1:Int)≥0))
def Lkq(n:Lgp)(user:Str)(m:Lgn):Option Bool:=
 bif (user:Str)==m.User then(some true) else(bi (Lkp m.Tags n user) fun y3=>some y3)
def Lkr(n:Lgp)(s:Lgg)(m:Lgn)(al:BagT):Option (Int×Lgp×BagT):=
 bi (bif (s.Kind:Int)==4 then(bif m.Approved then(bi (some (11,n,al)) fun v=>some (.inr v)) else(some (.inl ((⟨m.Node,m.User,m.Name,m.Public,m.Tags,m.Joined,m.Expires,true⟩:Lgn),false)))) else(bif (s.Kind:Int)==5 then(bi (Lkc n s.Public) fun y11=>bif y11 then(bi (some (13,n,al)) fun v=>some (.inr v)) else(bi (Lke n s.At m.User) fun y17=>some (.inl ((⟨m.Node,m.User,m.Name,s.Public,m.Tags,m.Joined,y17,m.Approved⟩:Lgn),true)))) else(bif (s.Kind:Int)==6 then(bif (m.Name:Str)==s.Name then(bi (some (6,n,al)) fun v=>some (.inr v)) else(some (.inl ((⟨m.Node,m.User,s.Name,m.Public,m.Tags,m.Joined,m.Expires,m.Approved⟩:Lgn),false)))) else(bif (s.Kind:Int)==7 then(bif ((s.Tags.length:Int):Int)==0 then(bi (some (3,n,al)) fun v=>some (.inr v)) else(bi (Lkk n s.By s.Tags) fun y31=>bif (y31:Int) != 0 then(bi (some (y31,n,al)) fun v=>some (.inr v)) else(bi (Lkd s.Tags) fun y37=>some (.inl ((⟨m.Node,[],m.Name,m.Public,y37,m.Joined,345686400,m.Approved⟩:Lgn),false))))) else(bif (s.Kind:Int)==8 then(bif decide ((m.Expires:Int)≤s.At) then(bi (some (11,n,al)) fun v=>some (.inr v)) else(some (.inl ((⟨m.Node,m.User,m.Name,m.Public,m.Tags,m.Joined,s.At,m.Approved⟩:Lgn),false)))) else(bi (appT al.1 ((mGet n.story s.Node).getD (1,[])) [(⟨s.At,(⟨[],[],[],[],[],0,0,false⟩:Lgn),true,false⟩:Lgo)]) fun y46=>bi (some (0,(⟨n.d,n.users,n.passes,(mDel n.there s.Node),(mSet n.story s.Node y46.1)⟩:Lgp),(y46.2,al.2.1,al.2.2.1,al.2.2.2.1,al.2.2.2.2.1,al.2.2.2.2.2))) fun v=>some (.inr v)))))):Option ((Lgn×Bool) ⊕ (Int×Lgp×BagT))) fun q=>orI q fun a3=>bi (Lkf n s.At a3.1 a3.2 al) fun y50=>some (0,y50.1,y50.2)
def Lks(n:Lgp)(s:Lgg)(al:BagT):Option (Int×Lgp×BagT):=
 bif (s.Kind:Int)==3 then(bi (Lkg n s al) fun y2=>some (y2.1,y2.2.1,y2.2.2)) else(bif !((mGet n.users s.By).getD false) then(some (8,n,al)) else(bif (s.Kind:Int)==1 then(bi (Lkl n s al) fun y8=>some (y8.1,y8.2.1,y8.2.2)) else(bif (s.Kind:Int)==2 then(bi (Lkm n s al) fun y12=>some (y12.1,n,y12.2)) else(bif !((mGet n.there s.Node).isSome) then(some (8,n,al)) else(bi (bif (s.Kind:Int) != 4 then(bi (Lkq n s.By ((mGet n.there s.Node).getD (⟨[],[],[],[],[],0,0,false⟩:Lgn))) fun y20=>some (!y20)) else(some false)) fun q17=>bif q17 then(some (16,n,al)) else(bi (Lkr n s ((mGet n.there s.Node).getD (⟨[],[],[],[],[],0,0,false⟩:Lgn)) al) fun y25=>some (y25.1,y25.2.1,y25.2.2)))))))
def Lkt(d:Lgf)(l:List Lgg)(v_at:Int)(al:BagT):Option (Lgp×BagT):=
 bi (Lka d) fun y1=>bi (rangeF (σ:=BagT×(List (Str×Bool))×(List (Str×Nat))×(List (Str×Lgn))×(List (Str×(Tl Lgo)))×(List Str)×(List Lge)×Int×Bool) (fun i3 x5 s4=>bif decide ((x5.At:Int)≤v_at) then(bi (Lks (⟨(⟨s4.2.2.2.2.2.1,s4.2.2.2.2.2.2.1,s4.2.2.2.2.2.2.2.1,s4.2.2.2.2.2.2.2.2⟩:Lgf),s4.2.1,s4.2.2.1,s4.2.2.2.1,s4.2.2.2.2.1⟩:Lgp) x5 s4.1) fun y15=>some (y15.2.2,y15.2.1.users,y15.2.1.passes,y15.2.1.there,y15.2.1.story,y15.2.1.d.Users,y15.2.1.d.Owners,y15.2.1.d.Life,y15.2.1.d.Approve)) else(some (s4.1,s4.2.1,s4.2.2.1,s4.2.2.2.1,s4.2.2.2.2.1,s4.2.2.2.2.2.1,s4.2.2.2.2.2.2.1,s4.2.2.2.2.2.2.2.1,s4.2.2.2.2.2.2.2.2))) 0 l (al,y1.users,y1.passes,y1.there,y1.story,y1.d.Users,y1.d.Owners,y1.d.Life,y1.d.Approve)) fun q6=>some ((⟨(⟨q6.2.2.2.2.2.1,q6.2.2.2.2.2.2.1,q6.2.2.2.2.2.2.2.1,q6.2.2.2.2.2.2.2.2⟩:Lgf),q6.2.1,q6.2.2.1,q6.2.2.2.1,q6.2.2.2.2.1⟩:Lgp),q6.1)
def Lku(m:Lgn):Option Lgn:=
 bi (Lkd m.Tags) fun y1=>some (⟨m.Node,m.User,m.Name,m.Public,y1,m.Joined,m.Expires,m.Approved⟩:Lgn)
def Lkv(n:Lgp):Option (List Lgn):=
 gd ((decide (n.there.length≤4294967296))&&n.there.all (fun e=>decide (e.1.length≤4294967296))) (bi (rangeF (σ:=List Lgn) (fun i3 x5 s4=>bi (Lku ((mGet n.there x5).getD (⟨[],[],[],[],[],0,0,false⟩:Lgn))) fun y14=>bi (apd s4 [y14]) fun y16=>some y16) 0 (sortK n.there) ([]:List Lgn)) fun q6=>some q6)
def Lkw(m:Lgn)(x:Int):Option Bool:=
 some ((!m.Approved)||(decide ((x:Int)≥m.Expires)))
def Lkx(s:List Lgn)(f:Int):Option Int:=
 bi (gd (decide ((s.length:Int)≤9223372036854775807)) (rangeI (σ:=Unit) (ρ:=Int) (fun i1 s2=>bi (getZ s (i1:Int)) fun x13=>bi (Lkw x13 f) fun y16=>bif y16 then(bi (some (i1:Int)) fun v=>some (.out v)) else(some (.go ()))) (s.length:Int) ())) fun q=>goI q fun a6=>some (-1)
def Lky(k:Nat)(s:List Lgn)(f:Int):Option (List Lgn):=
 bi (Lkx s f) fun y1=>bif (y1:Int)==(-1) then(some s) else(bi (loopM (σ:=(List Lgn)×Int×Int) (ρ:=(List Lgn)×Int) (fun s6=>bif decide ((s6.2.2:Int)<(s6.1.length:Int)) then(bi (getZ s6.1 s6.2.2) fun x16=>bi (Lkw x16 f) fun y19=>bif !y19 then(bi (getZ s6.1 s6.2.1) fun x22=>some (.go (s6.1.set s6.2.1.toNat x16,wi (s6.2.1+1),wi (s6.2.2+1)))) else(some (.go (s6.1,s6.2.1,wi (s6.2.2+1))))) else(some (.out (s6.1,s6.2.1)))) k (s,y1,wi (y1+1))) fun q8=>bi (subZ q8.1 q8.2 (q8.1.length:Int)) fun z27=>some (q8.1.take q8.2.toNat))
def Lkz(k:Nat)(n:Lgp)(moment:Int):Option (List Lgn):=
 bi (Lkv n) fun y1=>bi (Lky k y1 moment) fun y3=>some y3
def Lla(p:Lgk)(node:Str):Option Int:=
 bi (Kzt p.Node node) fun y1=>some y1
def Llb(k:Nat)(x:List Lgk)(target:Str):Option (Int×Bool):=
 bi (loopM (σ:=Int×Int) (ρ:=Int) (fun s2=>bif decide ((s2.1:Int)<s2.2) then(bi (getZ x (wi (shrV .u64 (IntKind.u64.wrap (wi (s2.1+s2.2))) 1))) fun x12=>bi (Lla x12 target) fun y14=>bif decide ((y14:Int)<0) then(some (.go (wi ((wi (shrV .u64 (IntKind.u64.wrap (wi (s2.1+s2.2))) 1))+1),s2.2))) else(some (.go (s2.1,wi (shrV .u64 (IntKind.u64.wrap (wi (s2.1+s2.2))) 1))))) else(some (.out s2.1))) k (0,(x.length:Int))) fun q4=>bi (bif decide ((q4:Int)<(x.length:Int)) then(bi (getZ x q4) fun x22=>bi (Lla x22 target) fun y24=>some ((y24:Int)==0)) else(some false)) fun q19=>some (q4,q19)
def Llc(s:List Lgi):Option (List Lgi):=
 bi (apd ([]:List Lgi) s) fun y1=>some y1
def Lld(s:List Lgj):Option (List Lgj):=
 bi (apd ([]:List Lgj) s) fun y1=>some y1
def Lle(k:Nat)(d:Lgf)(l:List Lgg)(places:List Lgk)(moment:Int)(al:BagT):Option ((List Lgm)×Int×BagT):=
 bi (Ljr k d l) fun y1=>bif (y1:Int) != 0 then(some ([],y1,al)) else(bi (Ljz k places) fun y5=>bif (y5:Int) != 0 then(some ([],y5,al)) else(bi (Ljd moment) fun y9=>bif !y9 then(some ([],1,al)) else(bi (Lkt d l moment al) fun y13=>bi (Lkz k y13.1 moment) fun y15=>bi (rangeF (σ:=List Lgm) (fun i17 x19 s18=>bi (Llb k places x19.Node) fun y28=>bi (bif y28.2 then(bi (getZ places y28.1) fun x33=>bi (Llc x33.Addrs.2) fun y35=>bi (getZ places y28.1) fun x37=>bi (Lld x37.Routes.2) fun y39=>some (⟨x19.Node,x19.User,x19.Name,x19.Tags,y35,y39⟩:Lgm)) else(some (⟨x19.Node,x19.User,x19.Name,x19.Tags,[],[]⟩:Lgm))) fun q30=>bi (apd s18 [q30]) fun y42=>some y42) 0 y15 ([]:List Lgm)) fun q20=>some (q20,0,y13.2))))
def Llf(a:Lgi):Option Int:=
 bif ((!a.Six)&&((decide ((a.Hi:Int)>0))||(decide ((a.Lo:Int)>4294967295)))) then(some 3) else(some 0)
def Llg(s:List Lgi)(v:Lgi):Option Int:=
 bi (rangeM (σ:=Unit) (ρ:=Int) (fun i1 x3 s2=>bif (((v.Six:Bool)==x3.Six)&&(((v.Hi:Int)==x3.Hi)&&(((v.Lo:Int)==x3.Lo)&&true))) then(bi (some (i1:Int)) fun v=>some (.out v)) else(some (.go ()))) 0 s ()) fun q=>goI q fun a6=>some (-1)
def Llh(s:List Lgi)(v:Lgi):Option Bool:=
 bi (Llg s v) fun y1=>some (decide ((y1:Int)≥0))
def Lli(k:Nat)(p:Lgj):Option Int:=
 bi (Llf p.Addr) fun y1=>bif (y1:Int) != 0 then(some y1) else(bi (Lip p.Addr) fun y5=>bi (Lhp p.Bits 0 y5) fun y7=>bif !y7 then(some 1) else(bi (Liq k p.Addr p.Bits) fun y11=>bi (Lio k p.Addr) fun y13=>bif !decide (([y11.1,y11.2.1,y11.2.2.1,y11.2.2.2.1,y11.2.2.2.2.1,y11.2.2.2.2.2.1,y11.2.2.2.2.2.2.1,y11.2.2.2.2.2.2.2.1,y11.2.2.2.2.2.2.2.2]:List Int)=([y13.1,y13.2.1,y13.2.2.1,y13.2.2.2.1,y13.2.2.2.2.1,y13.2.2.2.2.2.1,y13.2.2.2.2.2.2.1,y13.2.2.2.2.2.2.2.1,y13.2.2.2.2.2.2.2.2]:List Int)) then(some 3) else(some 0)))
def Llj(k:Nat)(l:List Lgk):Option Int:=
 bif decide (((l.length:Int):Int)>500) then(some 2) else(bi (rangeM (σ:=List Lgi) (ρ:=Int) (fun i3 x5 s4=>bi (Lhr x5.Node) fun y14=>bif !y14 then(bi (some 5) fun v=>some (.out v)) else(bi (bif decide (((i3:Int):Int)>0) then(bi (getZ l (wi ((i3:Int) - 1))) fun x23=>some (Op.bytesLess x5.Node x23.Node||(x5.Node:Str)==x23.Node)) else(some false)) fun q20=>bif q20 then(bi (some 7) fun v=>some (.out v)) else(bif decide (((x5.Addrs.2.length:Int):Int)>4) then(bi (some 2) fun v=>some (.out v)) else(bi (rangeM (σ:=List Lgi) (ρ:=LS (List Lgi) Int) (fun i34 x36 s35=>bi (Llf x36) fun y45=>bif (y45:Int) != 0 then(bi (bi (some y45) fun v=>some (.out v)) fun v=>some (.out v)) else(bi (Llh s35 x36) fun y53=>bif y53 then(bi (bi (some 13) fun v=>some (.out v)) fun v=>some (.out v)) else(bi (apd s35 [x36]) fun y61=>some (.go y61)))) 0 x5.Addrs.2 s4) fun q=>goI q fun a39=>bif decide (((x5.Routes.2.length:Int):Int)>20) then(bi (some 2) fun v=>some (.out v)) else(bi (rangeM (σ:=Unit) (ρ:=LS (List Lgi) Int) (fun i67 x69 s68=>bi (Lli k x69) fun y78=>bif (y78:Int) != 0 then(bi (bi (some y78) fun v=>some (.out v)) fun v=>some (.out v)) else(bi (subZ x5.Routes.2 0 (i67:Int)) fun z86=>bi (Ljy z86 x69) fun y88=>bif y88 then(bi (bi (some 6) fun v=>some (.out v)) fun v=>some (.out v)) else(some (.go ())))) 0 x5.Routes.2 ()) fun q=>goI q fun a72=>some (.go a39)))))) 0 l ([]:List Lgi)) fun q=>goI q fun a8=>some 0)
def Llk(v_at:Int):Option Int:=
 bi (Lhx v_at) fun y1=>bif !y1 then(some 1) else(some 0)
def Lll(k:Nat)(d:Lgf)(user:Str)(tag:Str):Option (Bool×Int):=
 bi (Ljc k d) fun y1=>bif (y1:Int) != 0 then(some (false,y1)) else(bi (Lkj d user tag) fun y5=>bi (Lhu d.Users user) fun y7=>bif ((!y7)||(!y5.2)) then(some (false,8)) else(some (y5.1,0)))
def Llm(k:Nat):Option Bool:=
 bi (Lll k (⟨[[97]],[(⟨[116],[[97]]⟩:Lge)],1,false⟩:Lgf) [97] [116]) fun y1=>some (((y1.2:Int)==0)&&y1.1)
def Lln(d:Lgf):Option Lgs:=
 some (⟨d,([]:List (Str×Nat)),([]:List (Str×Nat)),([]:List (Str×Bool)),([]:List (Str×Vl))⟩:Lgs)
def Llo(d:Lgf)(tag:Str):Option ((List Str)×Bool):=
 bi (rangeM (σ:=Unit) (ρ:=(List Str)×Bool) (fun i1 x3 s2=>bif (x3.Tag:Str)==tag then(bi (some (x3.Users,true)) fun v=>some (.out v)) else(some (.go ()))) 0 d.Owners ()) fun q=>goI q fun a6=>some ([],false)
def Llp(d:Lgf)(user:Str)(tags:List Str):Option Int:=
 bi (rangeM (σ:=Unit) (ρ:=Int) (fun i1 x3 s2=>bi (Llo d x3) fun y12=>bif !y12.2 then(bi (some 8) fun v=>some (.out v)) else(bi (Lhu y12.1 user) fun y18=>bif !y18 then(bi (some 16) fun v=>some (.out v)) else(some (.go ())))) 0 tags ()) fun q=>goI q fun a6=>some 0
def Llq(v_h:Lgs)(s:Lgg)(al:BagT):Option (Int×Lgs×BagT):=
 bi (Lhu v_h.d.Users s.By) fun y1=>bif !y1 then(some (8,v_h,al)) else(bif (((s.Kind:Int)==2)&&(((mGet v_h.keys s.Join).getD 0)==0)) then(some (8,v_h,al)) else(bi (bif (s.Kind:Int)==2 then(gd (Nat.blt 0 ((mGet v_h.keys s.Join).getD 0)) (bi (hGet al.2.2.2.2.1 ((mGet v_h.keys s.Join).getD 0)) fun m12=>some (!((m12.Join.By:Str)==s.By)))) else(some false)) fun q7=>bif q7 then(some (16,v_h,al)) else(bi (bif (s.Kind:Int)==2 then(gd (Nat.blt 0 ((mGet v_h.keys s.Join).getD 0)) (bi (hGet al.2.2.2.2.1 ((mGet v_h.keys s.Join).getD 0)) fun m22=>some m22.revoked)) else(some false)) fun q17=>bif q17 then(some (11,v_h,al)) else(bif (s.Kind:Int)==2 then(gd (Nat.blt 0 ((mGet v_h.keys s.Join).getD 0)) (bi (hGet al.2.2.2.2.1 ((mGet v_h.keys s.Join).getD 0)) fun m30=>some (0,v_h,(al.1,al.2.1,al.2.2.1,al.2.2.2.1,(hSet al.2.2.2.2.1 ((mGet v_h.keys s.Join).getD 0) (⟨m30.Join,true,m30.used⟩:Lgu)),al.2.2.2.2.2)))) else(bif !(((mGet v_h.keys s.Join).getD 0)==0) then(some (6,v_h,al)) else(bi (Lhv s.Uses 1 1000) fun y35=>bif (((!y35)||(decide ((s.Until:Int)≤s.At)))||(decide ((s.Until:Int)>345686400))) then(some (1,v_h,al)) else(bi (Llp v_h.d s.By s.Tags) fun y39=>bif (y39:Int) != 0 then(some (y39,v_h,al)) else(bi (Lkd s.Tags) fun y43=>some (0,(⟨v_h.d,(mSet v_h.keys s.Join (al.1.length+1)),v_h.nodes,v_h.ever,v_h.History⟩:Lgs),((al.1++[false]),al.2.1,al.2.2.1,al.2.2.2.1,((al.1.length,(⟨(⟨s.Join,s.By,y43,s.Until,s.Uses,s.Ready⟩:Lgq),false,0⟩:Lgu)) :: al.2.2.2.2.1),al.2.2.2.2.2))))))))))
def Llr(v_h:Lgs)(v_public:Str)(al:BagT):Option Bool:=
 bi (rangePM (σ:=Unit) (ρ:=Bool) (fun x8 s7=>gd (Nat.blt 0 x8.2) (bi (hGet al.2.2.2.1 x8.2) fun m20=>bif (m20.Public:Str)==v_public then(bi (some true) fun v=>some (.out v)) else(some (.go ())))) v_h.nodes ()) fun q=>goI q fun s7=>some false
def Lls(v_h:Lgs)(s:Lgg)(al:BagT):Option (Int×Lgs×BagT):=
 bif ((s.By:Str)==[]:Bool)==((s.Join:Str)==[]) then(some (3,v_h,al)) else(bi (bif !((s.By:Str)==[]) then(bi (Lhu v_h.d.Users s.By) fun y6=>bif !y6 then(some true) else(bif !((s.Join:Str)==[]) then(some (((mGet v_h.keys s.Join).getD 0)==0)) else(some false))) else(bif !((s.Join:Str)==[]) then(some (((mGet v_h.keys s.Join).getD 0)==0)) else(some false))) fun q3=>bif q3 then(some (8,v_h,al)) else(bi (bif !(((mGet v_h.keys s.Join).getD 0)==0) then(gd (Nat.blt 0 ((mGet v_h.keys s.Join).getD 0)) (bi (hGet al.2.2.2.2.1 ((mGet v_h.keys s.Join).getD 0)) fun m22=>bif m22.revoked then(some true) else(gd (Nat.blt 0 ((mGet v_h.keys s.Join).getD 0)) (bi (hGet al.2.2.2.2.1 ((mGet v_h.keys s.Join).getD 0)) fun m28=>some (decide ((s.At:Int)≥m28.Join.Until)))))) else(some false)) fun q17=>bif q17 then(some (11,v_h,al)) else(bi (bif !(((mGet v_h.keys s.Join).getD 0)==0) then(gd (Nat.blt 0 ((mGet v_h.keys s.Join).getD 0)) (bi (hGet al.2.2.2.2.1 ((mGet v_h.keys s.Join).getD 0)) fun m38=>gd (Nat.blt 0 ((mGet v_h.keys s.Join).getD 0)) (bi (hGet al.2.2.2.2.1 ((mGet v_h.keys s.Join).getD 0)) fun m42=>some (decide ((m38.used:Int)≥m42.Join.Left))))) else(some false)) fun q33=>bif q33 then(some (12,v_h,al)) else(bif ((mGet v_h.ever s.Node).getD false) then(some (6,v_h,al)) else(bi (Llr v_h s.Public al) fun y49=>bif y49 then(some (13,v_h,al)) else(bif decide (((v_h.nodes.length:Int):Int)≥500) then(some (2,v_h,al)) else(bi (bif !(((mGet v_h.keys s.Join).getD 0)==0) then(gd (Nat.blt 0 ((mGet v_h.keys s.Join).getD 0)) (bi (hGet al.2.2.2.2.1 ((mGet v_h.keys s.Join).getD 0)) fun m60=>gd (Nat.blt 0 ((mGet v_h.keys s.Join).getD 0)) (bi (hGet al.2.2.2.2.1 ((mGet v_h.keys s.Join).getD 0)) fun m64=>bi (bif !v_h.d.Approve then(some true) else(gd (Nat.blt 0 ((mGet v_h.keys s.Join).getD 0)) (bi (hGet (hSet al.2.2.2.2.1 ((mGet v_h.keys s.Join).getD 0) (⟨m64.Join,m64.revoked,wi (m60.used+1)⟩:Lgu)) ((mGet v_h.keys s.Join).getD 0)) fun m72=>some m72.Join.Ready))) fun q66=>gd (Nat.blt 0 ((mGet v_h.keys s.Join).getD 0)) (bi (hGet (hSet al.2.2.2.2.1 ((mGet v_h.keys s.Join).getD 0) (⟨m64.Join,m64.revoked,wi (m60.used+1)⟩:Lgu)) ((mGet v_h.keys s.Join).getD 0)) fun m76=>gd (Nat.blt 0 ((mGet v_h.keys s.Join).getD 0)) (bi (hGet (hSet al.2.2.2.2.1 ((mGet v_h.keys s.Join).getD 0) (⟨m64.Join,m64.revoked,wi (m60.used+1)⟩:Lgu)) ((mGet v_h.keys s.Join).getD 0)) fun m80=>bif decide (((m80.Join.Tags.length:Int):Int)>0) then(gd (Nat.blt 0 ((mGet v_h.keys s.Join).getD 0)) (bi (hGet (hSet al.2.2.2.2.1 ((mGet v_h.keys s.Join).getD 0) (⟨m64.Join,m64.revoked,wi (m60.used+1)⟩:Lgu)) ((mGet v_h.keys s.Join).getD 0)) fun m85=>bi (Lkd m85.Join.Tags) fun y87=>some ((al.1,al.2.1,al.2.2.1,al.2.2.2.1,(hSet al.2.2.2.2.1 ((mGet v_h.keys s.Join).getD 0) (⟨m64.Join,m64.revoked,wi (m60.used+1)⟩:Lgu)),al.2.2.2.2.2),(⟨s.Node,[],s.Name,s.Public,y87,s.At,345686400,q66⟩:Lgn)))) else(some ((al.1,al.2.1,al.2.2.1,al.2.2.2.1,(hSet al.2.2.2.2.1 ((mGet v_h.keys s.Join).getD 0) (⟨m64.Join,m64.revoked,wi (m60.used+1)⟩:Lgu)),al.2.2.2.2.2),(⟨s.Node,m76.Join.By,s.Name,s.Public,[],s.At,(if 345686400<(wi (s.At+v_h.d.Life)) then 345686400 else wi (s.At+v_h.d.Life)),q66⟩:Lgn)))))))) else(some (al,(⟨s.Node,s.By,s.Name,s.Public,[],s.At,(if 345686400<(wi (s.At+v_h.d.Life)) then 345686400 else wi (s.At+v_h.d.Life)),!v_h.d.Approve⟩:Lgn)))) fun q55=>some (0,(⟨v_h.d,v_h.keys,(mSet v_h.nodes s.Node (q55.1.1.length+1)),(mSet v_h.ever s.Node true),(mSet v_h.History s.Node ((q55.1.1++[false]).length+1,[(⟨s.Public,s.At,345686400⟩:Lgv)].length))⟩:Lgs),(((q55.1.1++[false])++[true]),q55.1.2.1,(((q55.1.1++[false]).length,[(⟨s.Public,s.At,345686400⟩:Lgv)]) :: q55.1.2.2.1),((q55.1.1.length,q55.2) :: q55.1.2.2.2.1),q55.1.2.2.2.2.1,q55.1.2.2.2.2.2)))))))))
def Llt(t:Str)(x:Lgf)(x2:Str):Option Bool:=
 bi (Llo x t) fun y1=>bi (Lhu y1.1 x2) fun y3=>some y3
def Llu(s:List Str)(f:Lgf)(f2:Str):Option Int:=
 bi (rangeM (σ:=Unit) (ρ:=Int) (fun i1 x3 s2=>bi (Llt x3 f f2) fun y12=>bif y12 then(bi (some (i1:Int)) fun v=>some (.out v)) else(some (.go ()))) 0 s ()) fun q=>goI q fun a6=>some (-1)
def Llv(s:List Str)(f:Lgf)(f2:Str):Option Bool:=
 bi (Llu s f f2) fun y1=>some (decide ((y1:Int)≥0))
def Llw(d:Lgf)(user:Str)(m:Lgn):Option Bool:=
 bi (bif (m.User:Str)==user then(some true) else(bi (Llv m.Tags d user) fun y5=>some y5)) fun q1=>some q1
def Llx(v_h:Lgs)(s:Lgg)(m:Nat)(al:BagT):Option (Int×Lgs×BagT):=
 bi (bif (s.Kind:Int)==5 then(bi (Llr v_h s.Public al) fun y5=>bif y5 then(bi (some (13,v_h,al)) fun v=>some (.inr v)) else(gd (Nat.blt 0 m) (bi (hGet al.2.2.2.1 m) fun m13=>gd (Nat.blt 0 m) (bi (hGet (hSet al.2.2.2.1 m (⟨m13.Node,m13.User,m13.Name,s.Public,m13.Tags,m13.Joined,m13.Expires,m13.Approved⟩:Lgn)) m) fun m17=>gd (Nat.blt 0 m) (bi (hGet (hSet (hSet al.2.2.2.1 m (⟨m13.Node,m13.User,m13.Name,s.Public,m13.Tags,m13.Joined,m13.Expires,m13.Approved⟩:Lgn)) m (⟨m17.Node,m17.User,m17.Name,m17.Public,m17.Tags,m17.Joined,345686400,m17.Approved⟩:Lgn)) m) fun m21=>bi (bif !((m21.User:Str)==[]) then(gd (Nat.blt 0 m) (bi (hGet (hSet (hSet al.2.2.2.1 m (⟨m13.Node,m13.User,m13.Name,s.Public,m13.Tags,m13.Joined,m13.Expires,m13.Approved⟩:Lgn)) m (⟨m17.Node,m17.User,m17.Name,m17.Public,m17.Tags,m17.Joined,345686400,m17.Approved⟩:Lgn)) m) fun m28=>some (al.1,al.2.1,al.2.2.1,(hSet (hSet (hSet al.2.2.2.1 m (⟨m13.Node,m13.User,m13.Name,s.Public,m13.Tags,m13.Joined,m13.Expires,m13.Approved⟩:Lgn)) m (⟨m17.Node,m17.User,m17.Name,m17.Public,m17.Tags,m17.Joined,345686400,m17.Approved⟩:Lgn)) m (⟨m28.Node,m28.User,m28.Name,m28.Public,m28.Tags,m28.Joined,(if 345686400<(wi (s.At+v_h.d.Life)) then 345686400 else wi (s.At+v_h.d.Life)),m28.Approved⟩:Lgn)),al.2.2.2.2.1,al.2.2.2.2.2))) else(some (al.1,al.2.1,al.2.2.1,(hSet (hSet al.2.2.2.1 m (⟨m13.Node,m13.User,m13.Name,s.Public,m13.Tags,m13.Joined,m13.Expires,m13.Approved⟩:Lgn)) m (⟨m17.Node,m17.User,m17.Name,m17.Public,m17.Tags,m17.Joined,345686400,m17.Approved⟩:Lgn)),al.2.2.2.2.1,al.2.2.2.2.2))) fun q23=>gd (Nat.blt 0 ((mGet v_h.History s.Node).getD (0,0)).1) (gd (decide ((0:Int)≤(wi (((((mGet v_h.History s.Node).getD (0,0)).2:Nat):Int) - 1)))&&Nat.blt (wi (((((mGet v_h.History s.Node).getD (0,0)).2:Nat):Int) - 1)).toNat ((mGet v_h.History s.Node).getD (0,0)).2) (bi (hGet q23.2.2.1 (((mGet v_h.History s.Node).getD (0,0)).1)) fun m35=>bi (getZ m35 (wi (((((mGet v_h.History s.Node).getD (0,0)).2:Nat):Int) - 1))) fun x37=>bi (appV q23.1 (hSet q23.2.2.1 (((mGet v_h.History s.Node).getD (0,0)).1) (m35.set (wi (((((mGet v_h.History s.Node).getD (0,0)).2:Nat):Int) - 1)).toNat (⟨x37.Public,x37.From,s.At⟩:Lgv))) ((mGet v_h.History s.Node).getD (0,0)) [(⟨s.Public,s.At,345686400⟩:Lgv)]) fun y40=>some (.inl (v_h.nodes,(mSet v_h.History s.Node y40.1),(y40.2.1,q23.2.1,y40.2.2,q23.2.2.2.1,q23.2.2.2.2.1,q23.2.2.2.2.2)))))))))) else(bif (s.Kind:Int)==6 then(gd (Nat.blt 0 m) (bi (hGet al.2.2.2.1 m) fun m46=>bif (m46.Name:Str)==s.Name then(bi (some (6,v_h,al)) fun v=>some (.inr v)) else(gd (Nat.blt 0 m) (bi (hGet al.2.2.2.1 m) fun m54=>some (.inl (v_h.nodes,v_h.History,(al.1,al.2.1,al.2.2.1,(hSet al.2.2.2.1 m (⟨m54.Node,m54.User,s.Name,m54.Public,m54.Tags,m54.Joined,m54.Expires,m54.Approved⟩:Lgn)),al.2.2.2.2.1,al.2.2.2.2.2))))))) else(bif (s.Kind:Int)==7 then(bif ((s.Tags.length:Int):Int)==0 then(bi (some (3,v_h,al)) fun v=>some (.inr v)) else(bi (Llp v_h.d s.By s.Tags) fun y62=>bif (y62:Int) != 0 then(bi (some (y62,v_h,al)) fun v=>some (.inr v)) else(bi (Lkd s.Tags) fun y68=>gd (Nat.blt 0 m) (bi (hGet al.2.2.2.1 m) fun m72=>gd (Nat.blt 0 m) (bi (hGet (hSet al.2.2.2.1 m (⟨m72.Node,[],m72.Name,m72.Public,m72.Tags,m72.Joined,m72.Expires,m72.Approved⟩:Lgn)) m) fun m76=>gd (Nat.blt 0 m) (bi (hGet (hSet (hSet al.2.2.2.1 m (⟨m72.Node,[],m72.Name,m72.Public,m72.Tags,m72.Joined,m72.Expires,m72.Approved⟩:Lgn)) m (⟨m76.Node,m76.User,m76.Name,m76.Public,y68,m76.Joined,m76.Expires,m76.Approved⟩:Lgn)) m) fun m80=>some (.inl (v_h.nodes,v_h.History,(al.1,al.2.1,al.2.2.1,(hSet (hSet (hSet al.2.2.2.1 m (⟨m72.Node,[],m72.Name,m72.Public,m72.Tags,m72.Joined,m72.Expires,m72.Approved⟩:Lgn)) m (⟨m76.Node,m76.User,m76.Name,m76.Public,y68,m76.Joined,m76.Expires,m76.Approved⟩:Lgn)) m (⟨m80.Node,m80.User,m80.Name,m80.Public,m80.Tags,m80.Joined,345686400,m80.Approved⟩:Lgn)),al.2.2.2.2.1,al.2.2.2.2.2))))))))) else(bif (s.Kind:Int)==8 then(gd (Nat.blt 0 m) (bi (hGet al.2.2.2.1 m) fun m86=>bif decide ((m86.Expires:Int)≤s.At) then(bi (some (11,v_h,al)) fun v=>some (.inr v)) else(gd (Nat.blt 0 m) (bi (hGet al.2.2.2.1 m) fun m94=>some (.inl (v_h.nodes,v_h.History,(al.1,al.2.1,al.2.2.1,(hSet al.2.2.2.1 m (⟨m94.Node,m94.User,m94.Name,m94.Public,m94.Tags,m94.Joined,s.At,m94.Approved⟩:Lgn)),al.2.2.2.2.1,al.2.2.2.2.2))))))) else(gd (Nat.blt 0 ((mGet v_h.History s.Node).getD (0,0)).1) (gd (decide ((0:Int)≤(wi (((((mGet v_h.History s.Node).getD (0,0)).2:Nat):Int) - 1)))&&Nat.blt (wi (((((mGet v_h.History s.Node).getD (0,0)).2:Nat):Int) - 1)).toNat ((mGet v_h.History s.Node).getD (0,0)).2) (bi (hGet al.2.2.1 (((mGet v_h.History s.Node).getD (0,0)).1)) fun m101=>bi (getZ m101 (wi (((((mGet v_h.History s.Node).getD (0,0)).2:Nat):Int) - 1))) fun x103=>some (.inl ((mDel v_h.nodes s.Node),v_h.History,(al.1,al.2.1,(hSet al.2.2.1 (((mGet v_h.History s.Node).getD (0,0)).1) (m101.set (wi (((((mGet v_h.History s.Node).getD (0,0)).2:Nat):Int) - 1)).toNat (⟨x103.Public,x103.From,s.At⟩:Lgv))),al.2.2.2.1,al.2.2.2.2.1,al.2.2.2.2.2))))))))):Option (((List (Str×Nat))×(List (Str×Vl))×BagT) ⊕ (Int×Lgs×BagT))) fun q=>orI q fun a3=>some (0,(⟨v_h.d,v_h.keys,a3.1,v_h.ever,a3.2.1⟩:Lgs),a3.2.2)
def Lly(v_h:Lgs)(s:Lgg)(al:BagT):Option (Int×Lgs×BagT):=
 bi (bif (s.Kind:Int)==1 then(some ((s.Kind:Int)==1)) else(some ((s.Kind:Int)==2))) fun q1=>bif q1 then(bi (Llq v_h s al) fun y6=>some (y6.1,y6.2.1,y6.2.2)) else(bif (s.Kind:Int)==3 then(bi (Lls v_h s al) fun y10=>some (y10.1,y10.2.1,y10.2.2)) else(bi (Lhu v_h.d.Users s.By) fun y13=>bif !y13 then(some (8,v_h,al)) else(bif (((mGet v_h.nodes s.Node).getD 0)==0) then(some (8,v_h,al)) else(bif (s.Kind:Int)==4 then(gd (Nat.blt 0 ((mGet v_h.nodes s.Node).getD 0)) (bi (hGet al.2.2.2.1 ((mGet v_h.nodes s.Node).getD 0)) fun m22=>bif m22.Approved then(some (11,v_h,al)) else(gd (Nat.blt 0 ((mGet v_h.nodes s.Node).getD 0)) (bi (hGet al.2.2.2.1 ((mGet v_h.nodes s.Node).getD 0)) fun m28=>some (0,v_h,(al.1,al.2.1,al.2.2.1,(hSet al.2.2.2.1 ((mGet v_h.nodes s.Node).getD 0) (⟨m28.Node,m28.User,m28.Name,m28.Public,m28.Tags,m28.Joined,m28.Expires,true⟩:Lgn)),al.2.2.2.2.1,al.2.2.2.2.2)))))) else(gd (Nat.blt 0 ((mGet v_h.nodes s.Node).getD 0)) (bi (hGet al.2.2.2.1 ((mGet v_h.nodes s.Node).getD 0)) fun m33=>bi (Llw v_h.d s.By m33) fun y35=>bif !y35 then(some (16,v_h,al)) else(bi (Llx v_h s ((mGet v_h.nodes s.Node).getD 0) al) fun y39=>some (y39.1,y39.2.1,y39.2.2))))))))
def Llz(d:Lgf)(l:List Lgg)(v_at:Int)(al:BagT):Option (Lgs×(List Lgt)×BagT):=
 bi (Lln d) fun y1=>bi (rangeM (σ:=BagT×(List (Str×Nat))×(List (Str×Nat))×(List (Str×Bool))×(List (Str×Vl))×(List Str)×(List Lge)×Int×Bool×(List Lgt)) (ρ:=BagT×(List (Str×Nat))×(List (Str×Nat))×(List (Str×Bool))×(List (Str×Vl))×(List Str)×(List Lge)×Int×Bool×(List Lgt)) (fun i3 x5 s4=>bif decide ((x5.At:Int)>v_at) then(some (.out (s4.1,s4.2.1,s4.2.2.1,s4.2.2.2.1,s4.2.2.2.2.1,s4.2.2.2.2.2.1,s4.2.2.2.2.2.2.1,s4.2.2.2.2.2.2.2.1,s4.2.2.2.2.2.2.2.2.1,s4.2.2.2.2.2.2.2.2.2))) else(bi (Lly (⟨(⟨s4.2.2.2.2.2.1,s4.2.2.2.2.2.2.1,s4.2.2.2.2.2.2.2.1,s4.2.2.2.2.2.2.2.2.1⟩:Lgf),s4.2.1,s4.2.2.1,s4.2.2.2.1,s4.2.2.2.2.1⟩:Lgs) x5 s4.1) fun y18=>bif (y18.1:Int) != 0 then(bi (apd s4.2.2.2.2.2.2.2.2.2 [(⟨(i3:Int),y18.1⟩:Lgt)]) fun y21=>some (.go (y18.2.2,y18.2.1.keys,y18.2.1.nodes,y18.2.1.ever,y18.2.1.History,y18.2.1.d.Users,y18.2.1.d.Owners,y18.2.1.d.Life,y18.2.1.d.Approve,y21))) else(some (.go (y18.2.2,y18.2.1.keys,y18.2.1.nodes,y18.2.1.ever,y18.2.1.History,y18.2.1.d.Users,y18.2.1.d.Owners,y18.2.1.d.Life,y18.2.1.d.Approve,s4.2.2.2.2.2.2.2.2.2))))) 0 l (al,y1.keys,y1.nodes,y1.ever,y1.History,y1.d.Users,y1.d.Owners,y1.d.Life,y1.d.Approve,([]:List Lgt))) fun q=>bi (lsN q fun s4=>(s4.1,s4.2.1,s4.2.2.1,s4.2.2.2.1,s4.2.2.2.2.1,s4.2.2.2.2.2.1,s4.2.2.2.2.2.2.1,s4.2.2.2.2.2.2.2.1,s4.2.2.2.2.2.2.2.2.1,s4.2.2.2.2.2.2.2.2.2)) fun q10=>some ((⟨(⟨q10.2.2.2.2.2.1,q10.2.2.2.2.2.2.1,q10.2.2.2.2.2.2.2.1,q10.2.2.2.2.2.2.2.2.1⟩:Lgf),q10.2.1,q10.2.2.1,q10.2.2.2.1,q10.2.2.2.2.1⟩:Lgs),q10.2.2.2.2.2.2.2.2.2,q10.1)
def Lma(x:Int):Option Int:=
 bi (bif decide ((x:Int)≥4294967296) then(some (shrV .u64 x 32,32)) else(some (x,0))) fun q1=>bi (bif decide ((q1.1:Int)≥65536) then(some (shrV .u64 q1.1 16,wi (q1.2+16))) else(some (q1.1,q1.2))) fun q5=>bi (bif decide ((q5.1:Int)≥256) then(some (shrV .u64 q5.1 8,wi (q5.2+8))) else(some (q5.1,q5.2))) fun q9=>bi (getZ ([0,1,2,2,3,3,3,3,4,4,4,4,4,4,4,4,5,5,5,5,5,5,5,5,5,5,5,5,5,5,5,5,6,6,6,6,6,6,6,6,6,6,6,6,6,6,6,6,6,6,6,6,6,6,6,6,6,6,6,6,6,6,6,6,7,7,7,7,7,7,7,7,7,7,7,7,7,7,7,7,7,7,7,7,7,7,7,7,7,7,7,7,7,7,7,7,7,7,7,7,7,7,7,7,7,7,7,7,7,7,7,7,7,7,7,7,7,7,7,7,7,7,7,7,7,7,7,7,8,8,8,8,8,8,8,8,8,8,8,8,8,8,8,8,8,8,8,8,8,8,8,8,8,8,8,8,8,8,8,8,8,8,8,8,8,8,8,8,8,8,8,8,8,8,8,8,8,8,8,8,8,8,8,8,8,8,8,8,8,8,8,8,8,8,8,8,8,8,8,8,8,8,8,8,8,8,8,8,8,8,8,8,8,8,8,8,8,8,8,8,8,8,8,8,8,8,8,8,8,8,8,8,8,8,8,8,8,8,8,8,8,8,8,8,8,8,8,8,8,8,8,8,8,8,8,8]:Str) (IntKind.u8.wrap (q9.1))) fun c13=>some (wi (q9.2+(wi ((c13.toNat:Int)))))
def Lmb(x:Int):Option Int:=
 bi (Lma x) fun y1=>some y1
def Lmc(a:Lgn)(b:Lgn):Option Int:=
 bi (Kzt a.Node b.Node) fun y1=>some y1
def Lmd(k:Nat)(data:List Lgn)(a:Int)(b:Int):Option (List Lgn):=
 bi (loopM (σ:=(List Lgn)×Int) (ρ:=List Lgn) (fun s2=>bif decide ((s2.2:Int)<b) then(bi (loopM (σ:=(List Lgn)×Int) (ρ:=List Lgn) (fun s13=>bi (bif decide ((s13.2:Int)>a) then(bi (getZ s13.1 s13.2) fun x25=>bi (getZ s13.1 (wi (s13.2 - 1))) fun x28=>bi (Lmc x25 x28) fun y31=>some (decide ((y31:Int)<0))) else(some false)) fun q22=>bif q22 then(bi (getZ s13.1 (wi (s13.2 - 1))) fun x35=>bi (getZ s13.1 s13.2) fun x38=>bi (getZ s13.1 s13.2) fun x41=>bi (getZ s13.1 (wi (s13.2 - 1))) fun x44=>bi (getZ (s13.1.set s13.2.toNat x35) (((wi (s13.2 - 1)).toNat:Nat):Int)) fun x47=>some (.go ((s13.1.set s13.2.toNat x35).set ((wi (s13.2 - 1)).toNat) x38,wi (s13.2 - 1)))) else(some (.out s13.1))) k (s2.1,s2.2)) fun q15=>some (.go (q15,wi (s2.2+1)))) else(some (.out s2.1))) k (data,wi (a+1))) fun q4=>some q4
def Lme(k:Nat)(data:List Lgn)(a:Int)(b:Int)(limit:Int):Option (List Lgn):=
 bi (loopM (σ:=Unit) (ρ:=List Lgn) (fun s2=>bif decide ((wi (b - a):Int)≤12) then(bi (Lmd k data a b) fun y12=>bi (some y12) fun v=>some (.out v)) else(bif (limit:Int)==0 then none else none)) k ()) fun v=>some v
def Lmf(k:Nat)(x:List Lgn):Option (List Lgn):=
 bi (Lmb (IntKind.u64.wrap ((x.length:Int)))) fun y1=>bi (Lme k x 0 (x.length:Int) y1) fun y3=>some y3
def Lmg(k:Nat)(d:Lgf)(l:List Lgg)(v_at:Int)(al:BagT):Option ((List Lgn)×BagT):=
 bi (Llz d l v_at al) fun y1=>rangeD (σ:=List Lgn) (fun x10 s9=>gd (Nat.blt 0 x10.2) (bi (hGet y1.2.2.2.2.2.1 x10.2) fun m25=>bi (apd s9 [m25]) fun y27=>some y27)) y1.1.nodes ([]:List Lgn) fun s9=>bi (Lmf k s9) fun y17=>gd (decide (y17.length=s9.length)) (some (y17,y1.2.2))
def Lmh(k:Nat)(d:Lgf)(l:List Lgg)(v_at:Int)(al:BagT):Option ((List Str)×BagT):=
 bi (Lmg k d l v_at al) fun y1=>bi (rangeF (σ:=List Str) (fun i3 x5 s4=>bif (x5.Approved&&(decide ((v_at:Int)<x5.Expires))) then(bi (apd s4 [x5.Node]) fun y15=>some y15) else(some s4)) 0 y1.1 ([]:List Str)) fun q6=>some (q6,y1.2)
def Lmi(k:Nat)(d:Lgf)(l:List Lgg)(node:Str)(v_at:Int)(al:BagT):Option (Lgn×Bool×BagT):=
 bi (Lmg k d l v_at al) fun y1=>bi (rangeM (σ:=Unit) (ρ:=Lgn×Bool×BagT) (fun i3 x5 s4=>bif (x5.Node:Str)==node then(bi (some (x5,true,y1.2)) fun v=>some (.out v)) else(some (.go ()))) 0 y1.1 ()) fun q=>goI q fun a8=>some ((⟨[],[],[],[],[],0,0,false⟩:Lgn),false,y1.2)
def Lmj(k:Nat)(d:Lgf)(l:List Lgg)(places:List Lgk)(v_at:Int)(al:BagT):Option ((List Lgm)×BagT):=
 bi (Lmh k d l v_at al) fun y1=>bi (rangeF (σ:=BagT×(List Lgm)) (fun i3 x5 s4=>bi (Lmi k d l x5 v_at s4.1) fun y14=>bi (rangeF (σ:=Lgm) (fun i16 x18 s17=>bif (x18.Node:Str)==x5 then(bi (Llc x18.Addrs.2) fun y28=>bi (Lld x18.Routes.2) fun y30=>some (⟨s17.Key,s17.User,s17.Name,s17.Tags,y28,y30⟩:Lgm)) else(some s17)) 0 places (⟨x5,y14.1.User,y14.1.Name,y14.1.Tags,[],[]⟩:Lgm)) fun q19=>bi (apd s4.2 [q19]) fun y33=>some (y14.2.2,y33)) 0 y1.1 (y1.2,([]:List Lgm))) fun q6=>some (q6.2,q6.1)
def Lmk(s1:List Str)(s2:List Str):Option Bool:=
 bif ((s1.length:Int):Int) != (s2.length:Int) then(some false) else(bi (rangeM (σ:=Unit) (ρ:=Bool) (fun i3 x5 s4=>bi (getZ s2 (i3:Int)) fun x14=>bif !((x5:Str)==x14) then(bi (some false) fun v=>some (.out v)) else(some (.go ()))) 0 s1 ()) fun q=>goI q fun a8=>some true)
def Lml(s1:List Lgi)(s2:List Lgi):Option Bool:=
 bif ((s1.length:Int):Int) != (s2.length:Int) then(some false) else(bi (rangeM (σ:=Unit) (ρ:=Bool) (fun i3 x5 s4=>bi (getZ s2 (i3:Int)) fun x14=>bif !(((x5.Six:Bool)==x14.Six)&&(((x5.Hi:Int)==x14.Hi)&&(((x5.Lo:Int)==x14.Lo)&&true))) then(bi (some false) fun v=>some (.out v)) else(some (.go ()))) 0 s1 ()) fun q=>goI q fun a8=>some true)
def Lmm(s1:List Lgj)(s2:List Lgj):Option Bool:=
 bif ((s1.length:Int):Int) != (s2.length:Int) then(some false) else(bi (rangeM (σ:=Unit) (ρ:=Bool) (fun i3 x5 s4=>bi (getZ s2 (i3:Int)) fun x14=>bif !((((x5.Addr.Six:Bool)==x14.Addr.Six)&&(((x5.Addr.Hi:Int)==x14.Addr.Hi)&&(((x5.Addr.Lo:Int)==x14.Addr.Lo)&&true)))&&(((x5.Bits:Int)==x14.Bits)&&true)) then(bi (some false) fun v=>some (.out v)) else(some (.go ()))) 0 s1 ()) fun q=>goI q fun a8=>some true)
def Lmn(a:Lgm)(b:Lgm):Option Bool:=
 bi (bif ((((a.Key:Str)==b.Key)&&((a.User:Str)==b.User))&&((a.Name:Str)==b.Name)) then(bi (Lmk a.Tags b.Tags) fun y4=>some y4) else(some false)) fun q1=>bi (bif q1 then(bi (Lml a.Addrs b.Addrs) fun y10=>some y10) else(some false)) fun q7=>bi (bif q7 then(bi (Lmm a.Routes b.Routes) fun y16=>some y16) else(some false)) fun q13=>some q13
def Lmo(s1:List Lgm)(s2:List Lgm):Option Bool:=
 bif ((s1.length:Int):Int) != (s2.length:Int) then(some false) else(bi (rangeM (σ:=Unit) (ρ:=Bool) (fun i3 x5 s4=>bi (getZ s2 (i3:Int)) fun x14=>bi (Lmn x5 x14) fun y16=>bif !y16 then(bi (some false) fun v=>some (.out v)) else(some (.go ()))) 0 s1 ()) fun q=>goI q fun a8=>some true)
def Lmp(k:Nat)(l:List Int)(al:BagT):Option (Bool×BagT):=
 bi (Lgy (⟨l,0⟩:Lgd) 0 12) fun y1=>bi (Lij k y1.2 y1.1) fun y3=>bi (Lix k y3.2 al) fun y5=>bi (Liy y5.2.1) fun y7=>bi (Lle k y3.1.d y3.1.l y5.1 y7.1 y5.2.2) fun y9=>bi (Llj k y5.1) fun y11=>bi (Llk y7.1) fun y13=>bi (Lii [y3.1.fault,y11,y13]) fun y15=>bif (y15:Int) != 0 then(bi (bif (((y9.2.1:Int)==y15)&&(((y9.1.length:Int):Int)==0)) then(bi (Llm k) fun y21=>some y21) else(some false)) fun q18=>some (q18,y9.2.2)) else(bi (bif (y9.2.1:Int)==0 then(bi (Lmj k y3.1.d y3.1.l y5.1 y7.1 y9.2.2) fun y28=>bi (Lmo y9.1 y28.1) fun y30=>some (y28.2,y30)) else(some (y9.2.2,false))) fun q25=>bi (bif q25.2 then(bi (Llm k) fun y36=>some y36) else(some false)) fun q33=>some (q33,q25.1))
def Lmq(p:Lgr)(v_at:Int):Option Int:=
 bif (p.revoked||(decide ((v_at:Int)≥p.Join.Until))) then(some 11) else(bif decide ((p.used:Int)≥p.Join.Left) then(some 12) else(some 0))
end
end Go.Gk
