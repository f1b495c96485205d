import Derived.Test.YtjmlnnanfkiakaaGreatDoorMStr3
import Derived.Test.YtjmlnnanfkiakaaGreatDoorGk53
set_option linter.unusedVariables false
namespace Go.Gk
noncomputable section
structure Lde where
 L:List Int
 v_at:Int
 deriving DecidableEq
structure Ldf where
 Tag:Str
 Users:List Str
 deriving DecidableEq
structure Ldg where
 Users:List Str
 Owners:List Ldf
 Life:Int
 Approve:Bool
 deriving DecidableEq
structure Ldh where
 At:Int
 Server:Str
 No:Int
 Kind:Int
 By:Str
 Node:Str
 Join:Str
 Public:Str
 Name:Str
 Tags:List Str
 Until:Int
 Uses:Int
 Ready:Bool
 deriving DecidableEq
structure Ldi where
 d:Ldg
 l:List Ldh
 fault:Int
 deriving DecidableEq
structure Ldj where
 server:Str
 no:Int
 deriving DecidableEq
structure Ldk where
 Public:Str
 From:Int
 To:Int
 deriving DecidableEq
structure Ldl where
 Node:Str
 User:Str
 Name:Str
 Public:Str
 Tags:List Str
 Joined:Int
 Expires:Int
 Approved:Bool
 deriving DecidableEq
structure Ldm where
 v_at:Int
 is:Ldl
 gone:Bool
 key:Bool
 deriving DecidableEq
structure Ldn where
 d:Ldg
 users:List (Str×Bool)
 passes:List (Str×Nat)
 there:List (Str×Ldl)
 story:List (Str×(Tl Ldm))
 deriving DecidableEq
structure Ldo where
 Key:Str
 By:Str
 Tags:List Str
 Until:Int
 Left:Int
 Ready:Bool
 deriving DecidableEq
structure Ldp where
 Join:Ldo
 revoked:Bool
 used:Int
 deriving DecidableEq
structure Ldq where
 d:Ldg
 keys:List (Str×Nat)
 nodes:List (Str×Nat)
 ever:List (Str×Bool)
 History:List (Str×Vl)
 deriving DecidableEq
structure Ldr where
 Step:Int
 Why:Int
 deriving DecidableEq
structure Lds where
 Join:Ldo
 revoked:Bool
 used:Int
 deriving DecidableEq
abbrev BagT:=List Bool×List (Nat×Ldp)×List (Nat×(List Ldk))×List (Nat×Ldl)×List (Nat×Lds)×List (Nat×Str)
def Ldt(x:Int)(n:Int):Option Int:=
 bif decide ((n:Int)<1) then(some 0) else(bi (remZ x n) fun y3=>bi (bif decide ((y3:Int)<0) then(some (wi (y3+n))) else(some y3)) fun q5=>some q5)
def Ldu(s:Lde)(n:Int):Option (Int×Lde):=
 bif ((s.L.length:Int):Int)==0 then(bi (Ldt (wi ((wi (s.v_at+1)) * 7919)) n) fun y2=>some (y2,(⟨s.L,wi (s.v_at+1)⟩:Lde))) else(bi (remZ (wi ((wi (s.v_at+1)) - 1)) (s.L.length:Int)) fun y5=>bi (divZ .i64 (wi ((wi (s.v_at+1)) - 1)) (s.L.length:Int)) fun y7=>bi (getZ s.L y5) fun x9=>bi (Ldt x9 1073741824) fun y11=>bi (Ldt (wi (y11+(wi (y7 * (wi (7919+y5)))))) n) fun y13=>some (y13,(⟨s.L,wi (s.v_at+1)⟩:Lde)))
def Ldv(s:Lde)(low:Int)(high:Int):Option (Int×Lde):=
 bif decide ((high:Int)<low) then(some (low,s)) else(bi (Ldu s (wi ((wi (high - low))+1))) fun y3=>some (wi (low+y3.1),y3.2))
def Ldw(s:Lde)(l:List Int):Option (Int×Lde):=
 bi (Ldu s (l.length:Int)) fun y1=>bi (getZ l y1.1) fun x3=>some (x3,y1.2)
def Ldx(s:Lde)(n:Int):Option (Bool×Lde):=
 bi (Ldu s n) fun y1=>some ((y1.1:Int)==0,y1.2)
def Ldy(s:Lde):Option (Ldg×Lde):=
 bi (Ldu s 3) fun y1=>bi (getZ [[[97,110,110],[98,111,98]],[[98,111,98]],[]] y1.1) fun x3=>bi (Ldu y1.2 2) fun y5=>bi (getZ [[[97,110,110]],[[97,110,110],[99,105,100]]] y5.1) fun x7=>bi (Ldw y5.2 [20,60,100,1000]) fun y9=>bi (Ldx y9.2 3) fun y11=>some ((⟨[[97,110,110],[98,111,98],[99,105,100]],[(⟨[100,98],x3⟩:Ldf),(⟨[119,101,98],x7⟩:Ldf)],y9.1,y11.1⟩:Ldg),y11.2)
def Ldz(s:Lde)(l:List Str):Option (Str×Lde):=
 bi (Ldu s (l.length:Int)) fun y1=>bi (getZ l y1.1) fun x3=>some (x3,y1.2)
def Lea(s:Lde):Option (Ldg×Lde):=
 bi (Ldy s) fun y1=>bi (Ldx y1.2 15) fun y3=>bi (bif y3.1 then(bi (Ldu y3.2 4) fun y8=>bif (y8.1:Int)==0 then(bi (Ldz y8.2 [[],[97,110,110],[65]]) fun y11=>bi (apd y1.1.Users [y11.1]) fun y13=>some (y11.2,y13,y1.1.Owners,y1.1.Life)) else(bif (y8.1:Int)==1 then(bi (Ldz y8.2 [[],[100,98],[122,122]]) fun y17=>bi (Ldz y17.2 [[97,110,110],[110,111,110,101]]) fun y19=>bi (apd y1.1.Owners [(⟨y17.1,[y19.1]⟩:Ldf)]) fun y21=>some (y19.2,y1.1.Users,y21,y1.1.Life)) else(bif (y8.1:Int)==2 then(bi (Ldz y8.2 [[97,110,110],[98,111,98]]) fun y25=>bi (getZ y1.1.Owners 0) fun x27=>some (y25.2,y1.1.Users,y1.1.Owners.set ((0:Int).toNat) (⟨x27.Tag,[[98,111,98],y25.1]⟩:Ldf),y1.1.Life)) else(bi (Ldw y8.2 [0,345686400,345686401]) fun y31=>some (y31.2,y1.1.Users,y1.1.Owners,y31.1))))) else(some (y3.2,y1.1.Users,y1.1.Owners,y1.1.Life))) fun q5=>some ((⟨q5.2.1,q5.2.2.1,q5.2.2.2,y1.1.Approve⟩:Ldg),q5.1)
def Leb(s:Lde):Option (Str×Lde):=
 bi (Ldz s [[97,110,110],[97,110,110],[97,110,110],[98,111,98],[99,105,100],[122,101,100]]) fun y1=>some (y1.1,y1.2)
def Lec(s:Lde):Option ((List Str)×Lde):=
 bi (Ldu s 6) fun y1=>bi (getZ [[],[[119,101,98]],[[119,101,98]],[[100,98]],[[100,98],[119,101,98]],[[110,111,110,101]]] y1.1) fun x3=>some (x3,y1.2)
def Led(s:Lde)(v_at:Int):Option (Ldh×Lde):=
 bi (Ldz s [[115,49],[115,49],[115,50]]) fun y1=>bi (Ldw y1.2 [1,2,3,3,3,3,3,4,5,5,6,7,7,8,9]) fun y3=>bi (Leb y3.2) fun y5=>bi (Ldz y5.2 [[110,97],[110,97],[110,98],[110,98],[110,99],[110,100]]) fun y7=>bi (Ldz y7.2 [[107,49],[107,49],[107,50]]) fun y9=>bi (Ldz y9.2 [[48,97],[48,98],[48,99],[48,100],[48,101],[49,97],[49,98]]) fun y11=>bi (bif (y3.1:Int)==1 then(bi (Lec y11.2) fun y16=>bi (Ldw y16.2 [0,5,50,200]) fun y18=>bi (Ldw y18.2 [0,1,2,1000,1001]) fun y20=>bi (Ldx y20.2 2) fun y22=>some (y22.2,(⟨v_at,y1.1,0,y3.1,y5.1,[],y9.1,[],[],y16.1,wi (v_at+y18.1),y20.1,y22.1⟩:Ldh))) else(bif (y3.1:Int)==2 then(some (y11.2,(⟨v_at,y1.1,0,y3.1,y5.1,[],y9.1,[],[],[],0,0,false⟩:Ldh))) else(bif (y3.1:Int)==3 then(bi (Ldz y11.2 [y7.1,[98,111,120],[98,111,120],[119,101,98]]) fun y28=>bi (Ldx y28.2 4) fun y30=>bif y30.1 then(bi (Ldx y30.2 8) fun y33=>bif !y33.1 then(some (y33.2,(⟨v_at,y1.1,0,y3.1,[],y7.1,y9.1,y11.1,y28.1,[],0,0,false⟩:Ldh))) else(some (y33.2,(⟨v_at,y1.1,0,y3.1,y5.1,y7.1,y9.1,y11.1,y28.1,[],0,0,false⟩:Ldh)))) else(some (y30.2,(⟨v_at,y1.1,0,y3.1,y5.1,y7.1,[],y11.1,y28.1,[],0,0,false⟩:Ldh)))) else(bif (y3.1:Int)==5 then(some (y11.2,(⟨v_at,y1.1,0,y3.1,y5.1,y7.1,[],y11.1,[],[],0,0,false⟩:Ldh))) else(bif (y3.1:Int)==6 then(bi (Ldz y11.2 [[98,111,120],[119,101,98],[109,97,99]]) fun y42=>some (y42.2,(⟨v_at,y1.1,0,y3.1,y5.1,y7.1,[],[],y42.1,[],0,0,false⟩:Ldh))) else(bif (y3.1:Int)==7 then(bi (Lec y11.2) fun y46=>some (y46.2,(⟨v_at,y1.1,0,y3.1,y5.1,y7.1,[],[],[],y46.1,0,0,false⟩:Ldh))) else(some (y11.2,(⟨v_at,y1.1,0,y3.1,y5.1,y7.1,[],[],[],[],0,0,false⟩:Ldh))))))))) fun q13=>some (q13.2,q13.1)
def Lee(x:Int):Option Bool:=
 some ((x:Int) != x)
def Lef(x:Int)(y:Int):Option Int:=
 bi (Lee x) fun y1=>bi (Lee y) fun y3=>bif y1 then(bif y3 then(some 0) else(some (-1))) else(bif y3 then(some 1) else(bif decide ((x:Int)<y) then(some (-1)) else(bif decide ((x:Int)>y) then(some 1) else(some 0))))
def Leg(vals:List Int):Option Int:=
 bi (rangeM (σ:=Unit) (ρ:=Int) (fun i1 x3 s2=>bif (x3:Int) != 0 then(bi (some x3) fun v=>some (.out v)) else(some (.go ()))) 0 vals ()) fun q=>goI q fun a6=>some 0
def Leh(a:Ldh)(b:Ldh):Option Int:=
 bi (Lef a.At b.At) fun y1=>bi (Kqv a.Server b.Server) fun y3=>bi (Lef a.No b.No) fun y5=>bi (Leg [y1,y3,y5]) fun y7=>some y7
def Lei(k:Nat)(data:List Ldh)(a:Int)(b:Int):Option (List Ldh):=
 bi (loopM (σ:=(List Ldh)×Int) (ρ:=List Ldh) (fun s2=>bif decide ((s2.2:Int)<b) then(bi (loopM (σ:=(List Ldh)×Int) (ρ:=List Ldh) (fun s13=>bi (bif decide ((s13.2:Int)>a) then(bi (getZ s13.1 s13.2) fun x25=>bi (getZ s13.1 (wi (s13.2 - 1))) fun x28=>bi (Leh x25 x28) fun y31=>some (decide ((y31:Int)<0))) else(some false)) fun q22=>bif q22 then(bi (getZ s13.1 (wi (s13.2 - 1))) fun x35=>bi (getZ s13.1 s13.2) fun x38=>bi (getZ s13.1 s13.2) fun x41=>bi (getZ s13.1 (wi (s13.2 - 1))) fun x44=>bi (getZ (s13.1.set s13.2.toNat x35) (((wi (s13.2 - 1)).toNat:Nat):Int)) fun x47=>some (.go ((s13.1.set s13.2.toNat x35).set ((wi (s13.2 - 1)).toNat) x38,wi (s13.2 - 1)))) else(some (.out s13.1))) k (s2.1,s2.2)) fun q15=>some (.go (q15,wi (s2.2+1)))) else(some (.out s2.1))) k (data,wi (a+1))) fun q4=>some q4
def Lej(k:Nat)(data:List Ldh)(n:Int):Option (List Ldh):=
 bi (loopM (σ:=(List Ldh)×Int×Int) (ρ:=(List Ldh)×Int) (fun s2=>bif decide ((s2.2.2:Int)≤n) then(bi (Lei k s2.1 s2.2.1 s2.2.2) fun y12=>gd (decide (y12.length=s2.1.length)) (some (.go (y12,s2.2.2,wi (s2.2.2+20))))) else(some (.out (s2.1,s2.2.1)))) k (data,0,20)) fun q4=>bi (Lei k q4.1 q4.2 n) fun y17=>gd (decide (y17.length=q4.1.length)) (bi (loopM (σ:=Int) (ρ:=Unit) (fun s22=>bif decide ((s22:Int)<n) then(bi (loopM (σ:=Unit) (ρ:=Unit) (fun s33=>bif decide ((wi (2 * s22):Int)≤n) then none else(some (.out ()))) k ()) fun q35=>bif decide ((wi (0+s22):Int)<n) then none else(some (.go (wi (s22 * 2))))) else(some (.out ()))) k 20) fun q24=>some y17)
def Lek(k:Nat)(x:List Ldh):Option (List Ldh):=
 bi (Lej k x (x.length:Int)) fun y1=>some y1
def Lel(k:Nat)(s:Lde)(many:Int):Option ((List Ldh)×Lde):=
 bi (Ldu s 5) fun y1=>bi (gd (decide (many≤9223372036854775807)) (rangeG (σ:=Lde×(List Ldh)×(List (Str×Int))×Int) (fun i3 s4=>bi (Led s4.1 s4.2.2.2) fun y15=>bi (apd s4.2.1 [(⟨y15.1.At,y15.1.Server,((mGet (mSet s4.2.2.1 y15.1.Server (wi (((mGet s4.2.2.1 y15.1.Server).getD 0)+1))) y15.1.Server).getD 0),y15.1.Kind,y15.1.By,y15.1.Node,y15.1.Join,y15.1.Public,y15.1.Name,y15.1.Tags,y15.1.Until,y15.1.Uses,y15.1.Ready⟩:Ldh)]) fun y17=>bi (Ldw y15.2 [0,1,1,5,20,60]) fun y19=>some (y19.2,y17,(mSet s4.2.2.1 y15.1.Server (wi (((mGet s4.2.2.1 y15.1.Server).getD 0)+1))),wi (s4.2.2.2+y19.1))) many (y1.2,([]:List Ldh),([]:List (Str×Int)),y1.1))) fun q6=>bi (Lek k q6.2.1) fun y21=>gd (decide (y21.length=q6.2.1.length)) (bi (bif decide (((y21.length:Int):Int)>0) then(bi (Ldx q6.1 15) fun y28=>some (y28.2,y28.1)) else(some (q6.1,false))) fun q25=>bi (bif q25.2 then(bi (Ldu q25.1 (y21.length:Int)) fun y34=>bi (getZ y21 y34.1) fun x36=>bi (Ldu y34.2 6) fun y39=>bif (y39.1:Int)==0 then(bi (Ldw y39.2 [-1,0,345686400]) fun y42=>some (y42.2,y21.set y34.1.toNat (⟨y42.1,x36.Server,x36.No,x36.Kind,x36.By,x36.Node,x36.Join,x36.Public,x36.Name,x36.Tags,x36.Until,x36.Uses,x36.Ready⟩:Ldh))) else(bif (y39.1:Int)==1 then(bi (Ldz y39.2 [[],[115,49]]) fun y46=>bi (Ldw y46.2 [0,1,1000001]) fun y48=>some (y48.2,(y21.set y34.1.toNat (⟨x36.At,y46.1,x36.No,x36.Kind,x36.By,x36.Node,x36.Join,x36.Public,x36.Name,x36.Tags,x36.Until,x36.Uses,x36.Ready⟩:Ldh)).set y34.1.toNat (⟨(⟨x36.At,y46.1,x36.No,x36.Kind,x36.By,x36.Node,x36.Join,x36.Public,x36.Name,x36.Tags,x36.Until,x36.Uses,x36.Ready⟩:Ldh).At,(⟨x36.At,y46.1,x36.No,x36.Kind,x36.By,x36.Node,x36.Join,x36.Public,x36.Name,x36.Tags,x36.Until,x36.Uses,x36.Ready⟩:Ldh).Server,y48.1,(⟨x36.At,y46.1,x36.No,x36.Kind,x36.By,x36.Node,x36.Join,x36.Public,x36.Name,x36.Tags,x36.Until,x36.Uses,x36.Ready⟩:Ldh).Kind,(⟨x36.At,y46.1,x36.No,x36.Kind,x36.By,x36.Node,x36.Join,x36.Public,x36.Name,x36.Tags,x36.Until,x36.Uses,x36.Ready⟩:Ldh).By,(⟨x36.At,y46.1,x36.No,x36.Kind,x36.By,x36.Node,x36.Join,x36.Public,x36.Name,x36.Tags,x36.Until,x36.Uses,x36.Ready⟩:Ldh).Node,(⟨x36.At,y46.1,x36.No,x36.Kind,x36.By,x36.Node,x36.Join,x36.Public,x36.Name,x36.Tags,x36.Until,x36.Uses,x36.Ready⟩:Ldh).Join,(⟨x36.At,y46.1,x36.No,x36.Kind,x36.By,x36.Node,x36.Join,x36.Public,x36.Name,x36.Tags,x36.Until,x36.Uses,x36.Ready⟩:Ldh).Public,(⟨x36.At,y46.1,x36.No,x36.Kind,x36.By,x36.Node,x36.Join,x36.Public,x36.Name,x36.Tags,x36.Until,x36.Uses,x36.Ready⟩:Ldh).Name,(⟨x36.At,y46.1,x36.No,x36.Kind,x36.By,x36.Node,x36.Join,x36.Public,x36.Name,x36.Tags,x36.Until,x36.Uses,x36.Ready⟩:Ldh).Tags,(⟨x36.At,y46.1,x36.No,x36.Kind,x36.By,x36.Node,x36.Join,x36.Public,x36.Name,x36.Tags,x36.Until,x36.Uses,x36.Ready⟩:Ldh).Until,(⟨x36.At,y46.1,x36.No,x36.Kind,x36.By,x36.Node,x36.Join,x36.Public,x36.Name,x36.Tags,x36.Until,x36.Uses,x36.Ready⟩:Ldh).Uses,(⟨x36.At,y46.1,x36.No,x36.Kind,x36.By,x36.Node,x36.Join,x36.Public,x36.Name,x36.Tags,x36.Until,x36.Uses,x36.Ready⟩:Ldh).Ready⟩:Ldh))) else(bif (y39.1:Int)==2 then(bi (Ldw y39.2 [0,10,3]) fun y53=>some (y53.2,y21.set y34.1.toNat (⟨x36.At,x36.Server,x36.No,y53.1,x36.By,x36.Node,x36.Join,x36.Public,x36.Name,x36.Tags,x36.Until,x36.Uses,x36.Ready⟩:Ldh))) else(bif (y39.1:Int)==3 then(bi (Ldz y39.2 [[],[65],[97,110,110]]) fun y57=>bi (Ldz y57.2 [[],[110,97]]) fun y59=>some (y59.2,(y21.set y34.1.toNat (⟨x36.At,x36.Server,x36.No,x36.Kind,y57.1,x36.Node,x36.Join,x36.Public,x36.Name,x36.Tags,x36.Until,x36.Uses,x36.Ready⟩:Ldh)).set y34.1.toNat (⟨(⟨x36.At,x36.Server,x36.No,x36.Kind,y57.1,x36.Node,x36.Join,x36.Public,x36.Name,x36.Tags,x36.Until,x36.Uses,x36.Ready⟩:Ldh).At,(⟨x36.At,x36.Server,x36.No,x36.Kind,y57.1,x36.Node,x36.Join,x36.Public,x36.Name,x36.Tags,x36.Until,x36.Uses,x36.Ready⟩:Ldh).Server,(⟨x36.At,x36.Server,x36.No,x36.Kind,y57.1,x36.Node,x36.Join,x36.Public,x36.Name,x36.Tags,x36.Until,x36.Uses,x36.Ready⟩:Ldh).No,(⟨x36.At,x36.Server,x36.No,x36.Kind,y57.1,x36.Node,x36.Join,x36.Public,x36.Name,x36.Tags,x36.Until,x36.Uses,x36.Ready⟩:Ldh).Kind,(⟨x36.At,x36.Server,x36.No,x36.Kind,y57.1,x36.Node,x36.Join,x36.Public,x36.Name,x36.Tags,x36.Until,x36.Uses,x36.Ready⟩:Ldh).By,y59.1,(⟨x36.At,x36.Server,x36.No,x36.Kind,y57.1,x36.Node,x36.Join,x36.Public,x36.Name,x36.Tags,x36.Until,x36.Uses,x36.Ready⟩:Ldh).Join,(⟨x36.At,x36.Server,x36.No,x36.Kind,y57.1,x36.Node,x36.Join,x36.Public,x36.Name,x36.Tags,x36.Until,x36.Uses,x36.Ready⟩:Ldh).Public,(⟨x36.At,x36.Server,x36.No,x36.Kind,y57.1,x36.Node,x36.Join,x36.Public,x36.Name,x36.Tags,x36.Until,x36.Uses,x36.Ready⟩:Ldh).Name,(⟨x36.At,x36.Server,x36.No,x36.Kind,y57.1,x36.Node,x36.Join,x36.Public,x36.Name,x36.Tags,x36.Until,x36.Uses,x36.Ready⟩:Ldh).Tags,(⟨x36.At,x36.Server,x36.No,x36.Kind,y57.1,x36.Node,x36.Join,x36.Public,x36.Name,x36.Tags,x36.Until,x36.Uses,x36.Ready⟩:Ldh).Until,(⟨x36.At,x36.Server,x36.No,x36.Kind,y57.1,x36.Node,x36.Join,x36.Public,x36.Name,x36.Tags,x36.Until,x36.Uses,x36.Ready⟩:Ldh).Uses,(⟨x36.At,x36.Server,x36.No,x36.Kind,y57.1,x36.Node,x36.Join,x36.Public,x36.Name,x36.Tags,x36.Until,x36.Uses,x36.Ready⟩:Ldh).Ready⟩:Ldh))) else(bif (y39.1:Int)==4 then(bi (Kqq [97] 21) fun y64=>bi (Ldz y39.2 [[],[120,121,122],[48,65],y64]) fun y66=>bi (Ldw y66.2 [0,-1,1000000000]) fun y68=>some (y68.2,(y21.set y34.1.toNat (⟨x36.At,x36.Server,x36.No,x36.Kind,x36.By,x36.Node,x36.Join,y66.1,x36.Name,x36.Tags,x36.Until,x36.Uses,x36.Ready⟩:Ldh)).set y34.1.toNat (⟨(⟨x36.At,x36.Server,x36.No,x36.Kind,x36.By,x36.Node,x36.Join,y66.1,x36.Name,x36.Tags,x36.Until,x36.Uses,x36.Ready⟩:Ldh).At,(⟨x36.At,x36.Server,x36.No,x36.Kind,x36.By,x36.Node,x36.Join,y66.1,x36.Name,x36.Tags,x36.Until,x36.Uses,x36.Ready⟩:Ldh).Server,(⟨x36.At,x36.Server,x36.No,x36.Kind,x36.By,x36.Node,x36.Join,y66.1,x36.Name,x36.Tags,x36.Until,x36.Uses,x36.Ready⟩:Ldh).No,(⟨x36.At,x36.Server,x36.No,x36.Kind,x36.By,x36.Node,x36.Join,y66.1,x36.Name,x36.Tags,x36.Until,x36.Uses,x36.Ready⟩:Ldh).Kind,(⟨x36.At,x36.Server,x36.No,x36.Kind,x36.By,x36.Node,x36.Join,y66.1,x36.Name,x36.Tags,x36.Until,x36.Uses,x36.Ready⟩:Ldh).By,(⟨x36.At,x36.Server,x36.No,x36.Kind,x36.By,x36.Node,x36.Join,y66.1,x36.Name,x36.Tags,x36.Until,x36.Uses,x36.Ready⟩:Ldh).Node,(⟨x36.At,x36.Server,x36.No,x36.Kind,x36.By,x36.Node,x36.Join,y66.1,x36.Name,x36.Tags,x36.Until,x36.Uses,x36.Ready⟩:Ldh).Join,(⟨x36.At,x36.Server,x36.No,x36.Kind,x36.By,x36.Node,x36.Join,y66.1,x36.Name,x36.Tags,x36.Until,x36.Uses,x36.Ready⟩:Ldh).Public,(⟨x36.At,x36.Server,x36.No,x36.Kind,x36.By,x36.Node,x36.Join,y66.1,x36.Name,x36.Tags,x36.Until,x36.Uses,x36.Ready⟩:Ldh).Name,(⟨x36.At,x36.Server,x36.No,x36.Kind,x36.By,x36.Node,x36.Join,y66.1,x36.Name,x36.Tags,x36.Until,x36.Uses,x36.Ready⟩:Ldh).Tags,y68.1,(⟨x36.At,x36.Server,x36.No,x36.Kind,x36.By,x36.Node,x36.Join,y66.1,x36.Name,x36.Tags,x36.Until,x36.Uses,x36.Ready⟩:Ldh).Uses,(⟨x36.At,x36.Server,x36.No,x36.Kind,x36.By,x36.Node,x36.Join,y66.1,x36.Name,x36.Tags,x36.Until,x36.Uses,x36.Ready⟩:Ldh).Ready⟩:Ldh))) else(bi (Ldu y39.2 3) fun y72=>bi (getZ [[[119,101,98],[100,98]],[[]],[[97],[98]]] y72.1) fun x74=>some (y72.2,y21.set y34.1.toNat (⟨x36.At,x36.Server,x36.No,x36.Kind,x36.By,x36.Node,x36.Join,x36.Public,x36.Name,x74,x36.Until,x36.Uses,x36.Ready⟩:Ldh)))))))) else(some (q25.1,y21))) fun q31=>some (q31.2,q31.1))
def Lem(n:Int)(low:Int)(high:Int):Option Bool:=
 some ((decide ((low:Int)≤n))&&(decide ((n:Int)≤high)))
def Len(s:Str)(v_some:Str):Option Bool:=
 bi (Kqo s v_some) fun y1=>some ((y1:Str)==[])
def Leo(s:Str):Option Bool:=
 bi (Lem (s.length:Int) 1 40) fun y1=>bi (bif y1 then(bi (subZ s 0 1) fun z6=>bi (Len z6 [97,98,99,100,101,102,103,104,105,106,107,108,109,110,111,112,113,114,115,116,117,118,119,120,121,122]) fun y8=>some y8) else(some false)) fun q3=>bi (bif q3 then(bi (Len s [97,98,99,100,101,102,103,104,105,106,107,108,109,110,111,112,113,114,115,116,117,118,119,120,121,122,48,49,50,51,52,53,54,55,56,57,45,95]) fun y14=>some y14) else(some false)) fun q11=>some q11
def Lep(l:List Str):Option Int:=
 bi (rangeM (σ:=Unit) (ρ:=Int) (fun i1 x3 s2=>bi (Leo x3) fun y12=>bif !y12 then(bi (some 5) fun v=>some (.out v)) else(bi (bif decide (((i1:Int):Int)>0) then(bi (getZ l (wi ((i1:Int) - 1))) fun x21=>some (Op.bytesLess x3 x21||(x3:Str)==x21)) else(some false)) fun q18=>bif q18 then(bi (some 7) fun v=>some (.out v)) else(some (.go ())))) 0 l ()) fun q=>goI q fun a6=>some 0
def Leq(s:List Str)(v:Str):Option Int:=
 bi (rangeM (σ:=Unit) (ρ:=Int) (fun i1 x3 s2=>bif (v:Str)==x3 then(bi (some (i1:Int)) fun v=>some (.out v)) else(some (.go ()))) 0 s ()) fun q=>goI q fun a6=>some (-1)
def Ler(s:List Str)(v:Str):Option Bool:=
 bi (Leq s v) fun y1=>some (decide ((y1:Int)≥0))
def Les(n:Int)(low:Int)(high:Int):Option Bool:=
 some ((decide ((low:Int)≤n))&&(decide ((n:Int)≤high)))
def Let(d:Ldg):Option Int:=
 bif decide (((d.Users.length:Int):Int)>200) then(some 2) else(bi (Lep d.Users) fun y3=>bif (y3:Int) != 0 then(some y3) else(bif decide (((d.Owners.length:Int):Int)>100) then(some 2) else(bi (rangeM (σ:=Unit) (ρ:=Int) (fun i9 x11 s10=>bi (Leo x11.Tag) fun y20=>bif !y20 then(bi (some 5) fun v=>some (.out v)) else(bi (bif decide (((i9:Int):Int)>0) then(bi (getZ d.Owners (wi ((i9:Int) - 1))) fun x29=>some (Op.bytesLess x11.Tag x29.Tag||(x11.Tag:Str)==x29.Tag)) else(some false)) fun q26=>bif q26 then(bi (some 7) fun v=>some (.out v)) else(bi (rangeM (σ:=Unit) (ρ:=LS Unit Int) (fun i36 x38 s37=>bi (Ler d.Users x38) fun y47=>bif !y47 then(bi (bi (some 8) fun v=>some (.out v)) fun v=>some (.out v)) else(bi (bif decide (((i36:Int):Int)>0) then(bi (getZ x11.Users (wi ((i36:Int) - 1))) fun x58=>some (Op.bytesLess x38 x58||(x38:Str)==x58)) else(some false)) fun q55=>bif q55 then(bi (bi (some 7) fun v=>some (.out v)) fun v=>some (.out v)) else(some (.go ())))) 0 x11.Users ()) fun q=>goI q fun a41=>some (.go ())))) 0 d.Owners ()) fun q=>goI q fun a14=>bi (Les d.Life 1 345686400) fun y67=>bif !y67 then(some 1) else(some 0))))
def Leu(v_at:Int):Option Bool:=
 bi (Lem v_at 0 345686399) fun y1=>some y1
def Lev(kind:Int):Option Str:=
 bi (getZ [[],[98,106,116,117,115,114],[98,106],[66,110,74,112,109],[98,110],[98,110,112],[98,110,109],[98,110,116],[98,110],[98,110]] kind) fun x1=>some x1
def Lew(s:Str):Option Int:=
 bi (Leo s) fun y1=>bif !y1 then(some 5) else(some 0)
def Lex(s:Str):Option Bool:=
 bi (Les (s.length:Int) 1 20) fun y1=>bi (bif y1 then(bi (Kqo s [48,49,50,51,52,53,54,55,56,57,97,98,99,100,101,102]) fun y6=>some ((y6:Str)==[])) else(some false)) fun q3=>some q3
def Ley(s:Ldh)(c:Int):Option Int:=
 bi (bi (bif (c:Int)==98 then(some ((c:Int)==98)) else(bif (c:Int)==110 then(some ((c:Int)==110)) else(bif (c:Int)==106 then(some ((c:Int)==106)) else(some ((c:Int)==109))))) fun q4=>bif q4 then(bi (Lew ((mGet (mSet (mSet (mSet (mSet ([]:List (Int×Str)) 98 s.By) 110 s.Node) 106 s.Join) 109 s.Name) c).getD [])) fun y13=>bi (some y13) fun v=>some (.inr v)) else(bi (bif (c:Int)==66 then(some ((c:Int)==66)) else(some ((c:Int)==74))) fun q18=>bif q18 then(bif !((((mGet (mSet (mSet ([]:List (Int×Str)) 66 s.By) 74 s.Join) c).getD []):Str)==[]) then(bi (Lew ((mGet (mSet (mSet ([]:List (Int×Str)) 66 s.By) 74 s.Join) c).getD [])) fun y24=>bi (some y24) fun v=>some (.inr v)) else(some (.inl ()))) else(bif (c:Int)==112 then(bi (Lex s.Public) fun y31=>bif !y31 then(bi (some 5) fun v=>some (.inr v)) else(some (.inl ()))) else(bif (c:Int)==116 then(bif decide (((s.Tags.length:Int):Int)>10) then(bi (some 2) fun v=>some (.inr v)) else(bi (Lep s.Tags) fun y43=>bi (some y43) fun v=>some (.inr v))) else(bi (bif (c:Int)==117 then(some ((c:Int)==117)) else(some ((c:Int)==115))) fun q48=>bif q48 then(bi (Les ((mGet (mSet (mSet ([]:List (Int×Int)) 117 s.Until) 115 s.Uses) c).getD 0) 0 999999999) fun y53=>bif !y53 then(bi (some 1) fun v=>some (.inr v)) else(some (.inl ()))) else(some (.inl ())))))):Option (Unit ⊕ Int)) fun q=>orI q fun a3=>some 0
def Lez(s:Ldh):Option Int:=
 bi (Leu s.At) fun y1=>bif !y1 then(some 1) else(bi (Leo s.Server) fun y5=>bif !y5 then(some 5) else(bi (Les s.No 1 1000000) fun y9=>bif !y9 then(some 1) else(bi (Les s.Kind 1 9) fun y13=>bif !y13 then(some 4) else(bi (Lev s.Kind) fun y17=>gd (asc y17) (bi (rangeM (σ:=Unit) (ρ:=Int) (fun sn23 x22 s21=>bi (Ley s (x22.toNat:Int)) fun y63=>bif (y63:Int) != 0 then(bi (some y63) fun v=>some (.out v)) else(some (.go ()))) 0 y17 ()) fun q=>goI q fun s21=>bi (Lev s.Kind) fun y30=>bi (Kqz y30) fun y32=>bi (rangePM (σ:=Unit) (ρ:=Int) (fun x41 s40=>bi (bif !x41.2 then(bi (Kqw y32 x41.1) fun y54=>some (decide ((y54:Int)<0))) else(some false)) fun q51=>bif q51 then(bi (some 3) fun v=>some (.out v)) else(some (.go ()))) (mSet (mSet (mSet (mSet (mSet (mSet (mSet (mSet (mSet ([]:List (Int×Bool)) 98 ((s.By:Str)==[])) 110 ((s.Node:Str)==[])) 106 ((s.Join:Str)==[])) 112 ((s.Public:Str)==[])) 109 ((s.Name:Str)==[])) 116 (((s.Tags.length:Int):Int)==0)) 117 ((s.Until:Int)==0)) 115 ((s.Uses:Int)==0)) 114 (!s.Ready)) ()) fun q=>goI q fun s40=>some 0)))))
def Lfa(x:Ldh)(x2:Ldh):Option Bool:=
 some (((x.Server:Str)==x2.Server)&&((x.No:Int)==x2.No))
def Lfb(s:List Ldh)(f:Ldh):Option Int:=
 bi (rangeM (σ:=Unit) (ρ:=Int) (fun i1 x3 s2=>bi (Lfa x3 f) fun y12=>bif y12 then(bi (some (i1:Int)) fun v=>some (.out v)) else(some (.go ()))) 0 s ()) fun q=>goI q fun a6=>some (-1)
def Lfc(s:List Ldh)(f:Ldh):Option Bool:=
 bi (Lfb s f) fun y1=>some (decide ((y1:Int)≥0))
def Lfd(l:List Ldh):Option Int:=
 bif decide (((l.length:Int):Int)>2000) then(some 2) else(bi (rangeM (σ:=Unit) (ρ:=Int) (fun i3 x5 s4=>bi (Lez x5) fun y14=>bif (y14:Int) != 0 then(bi (some y14) fun v=>some (.out v)) else(bi (bif decide (((i3:Int):Int)>0) then(bi (getZ l (wi ((i3:Int) - 1))) fun x23=>bi (Leh x23 x5) fun y25=>some (decide ((y25:Int)≥0))) else(some false)) fun q20=>bif q20 then(bi (some 7) fun v=>some (.out v)) else(bi (subZ l 0 (i3:Int)) fun z32=>bi (Lfc z32 x5) fun y34=>bif y34 then(bi (some 6) fun v=>some (.out v)) else(some (.go ()))))) 0 l ()) fun q=>goI q fun a8=>some 0)
def Lfe(vals:List Int):Option Int:=
 bi (rangeM (σ:=Unit) (ρ:=Int) (fun i1 x3 s2=>bif (x3:Int) != 0 then(bi (some x3) fun v=>some (.out v)) else(some (.go ()))) 0 vals ()) fun q=>goI q fun a6=>some 0
def Lff(k:Nat)(s:Lde)(many:Int):Option (Ldi×Lde):=
 bi (Lea (⟨s.L,s.v_at⟩:Lde)) fun y1=>bi (Lel k y1.2 many) fun y3=>bi (Let y1.1) fun y5=>bi (Lfd y3.1) fun y7=>bi (Lfe [y5,y7]) fun y9=>some ((⟨y1.1,y3.1,y9⟩:Ldi),y3.2)
def Lfg(s:Lde):Option (Int×Lde):=
 bi (Ldu s 300) fun y1=>bi (Ldu y1.2 300) fun y3=>bi (Ldw y3.2 [345686399,-1,345686400]) fun y5=>bi (Ldw y5.2 [0,5,20,40,60,80,120,y1.1,y3.1,y5.1]) fun y7=>some (y7.1,y7.2)
def Lfh(k:Nat)(s:Str):Option Bool:=
 bi (loopM (σ:=Int) (ρ:=Unit ⊕ Bool) (fun s2=>bif decide ((s2:Int)<(s.length:Int)) then(bi (getZ s s2) fun c12=>bif !(((decide (((c12.toNat:Int):Int)≥97))&&(decide (((c12.toNat:Int):Int)≤122)))||((decide ((s2:Int)>0))&&((((decide (((c12.toNat:Int):Int)≥48))&&(decide (((c12.toNat:Int):Int)≤57)))||(((c12.toNat:Int):Int)==45))||(((c12.toNat:Int):Int)==95)))) then(bi (some false) fun v=>some (.out (.inr v))) else(some (.go (wi (s2+1))))) else(some (.out (.inl ())))) k 0) fun q=>orI q fun a6=>some ((!((s:Str)==[]))&&(decide (((s.length:Int):Int)≤40)))
def Lfi(k:Nat)(l:List Str):Option Int:=
 bi (rangeM (σ:=Unit) (ρ:=Int) (fun i1 x3 s2=>bi (Lfh k x3) fun y12=>bif !y12 then(bi (some 5) fun v=>some (.out v)) else(bi (bif decide (((i1:Int):Int)>0) then(bi (getZ l (wi ((i1:Int) - 1))) fun x21=>some (Op.bytesLess x3 x21||(x3:Str)==x21)) else(some false)) fun q18=>bif q18 then(bi (some 7) fun v=>some (.out v)) else(some (.go ())))) 0 l ()) fun q=>goI q fun a6=>some 0
def Lfj(n:Int)(low:Int)(high:Int):Option Bool:=
 some ((decide ((n:Int)<low))||(decide ((n:Int)>high)))
def Lfk(k:Nat)(d:Ldg):Option Int:=
 bif decide (((d.Users.length:Int):Int)>200) then(some 2) else(bi (Lfi k d.Users) fun y3=>bif (y3:Int) != 0 then(some y3) else(bif decide (((d.Owners.length:Int):Int)>100) then(some 2) else(bi (rangeM (σ:=Unit) (ρ:=Int) (fun i9 x11 s10=>bi (Lfh k x11.Tag) fun y20=>bif !y20 then(bi (some 5) fun v=>some (.out v)) else(bi (bif decide (((i9:Int):Int)>0) then(bi (getZ d.Owners (wi ((i9:Int) - 1))) fun x29=>some (Op.bytesLess x11.Tag x29.Tag||(x11.Tag:Str)==x29.Tag)) else(some false)) fun q26=>bif q26 then(bi (some 7) fun v=>some (.out v)) else(bi (rangeM (σ:=Unit) (ρ:=LS Unit Int) (fun i36 x38 s37=>bi (Ler d.Users x38) fun y47=>bif !y47 then(bi (bi (some 8) fun v=>some (.out v)) fun v=>some (.out v)) else(bi (bif decide (((i36:Int):Int)>0) then(bi (getZ x11.Users (wi ((i36:Int) - 1))) fun x58=>some (Op.bytesLess x38 x58||(x38:Str)==x58)) else(some false)) fun q55=>bif q55 then(bi (bi (some 7) fun v=>some (.out v)) fun v=>some (.out v)) else(some (.go ())))) 0 x11.Users ()) fun q=>goI q fun a41=>some (.go ())))) 0 d.Owners ()) fun q=>goI q fun a14=>bi (Lfj d.Life 1 345686400) fun y67=>bif y67 then(some 1) else(some 0))))
def Lfl(n:Int):Option Bool:=
 some ((decide ((n:Int)≥0))&&(decide ((n:Int)<345686400)))
def Lfm(kind:Int):Option (List Int):=
 bif (kind:Int)==1 then(some [0,2,5,6,7,8]) else(bif (kind:Int)==2 then(some [0,2]) else(bif (kind:Int)==3 then(some [0,1,2,3,4]) else(bif (kind:Int)==5 then(some [0,1,3]) else(bif (kind:Int)==6 then(some [0,1,4]) else(bif (kind:Int)==7 then(some [0,1,5]) else(some [0,1]))))))
def Lfn(k:Nat)(s:Str)(empty:Bool):Option Int:=
 bi (Lfh k s) fun y1=>bif ((!y1)&&(!(empty&&((s:Str)==[])))) then(some 5) else(some 0)
def Lfo(s:Str):Option Bool:=
 bi (bif ((!((s:Str)==[]))&&(decide (((s.length:Int):Int)≤20))) then(bi (Kqo s [48,49,50,51,52,53,54,55,56,57,97,98,99,100,101,102]) fun y4=>some ((y4:Str)==[])) else(some false)) fun q1=>some q1
def Lfp(k:Nat)(l:List Str):Option Int:=
 bif decide (((l.length:Int):Int)>10) then(some 2) else(bi (Lfi k l) fun y3=>some y3)
def Lfq(n:Int):Option Int:=
 bi (Lfj n 0 999999999) fun y1=>bif y1 then(some 1) else(some 0)
def Lfr(k:Nat)(s:Ldh)(field:Int):Option Int:=
 bi (bif (field:Int)==0 then(bi (Lfn k s.By ((s.Kind:Int)==3)) fun y5=>bi (some y5) fun v=>some (.inr v)) else(bif (field:Int)==1 then(bi (Lfn k s.Node false) fun y11=>bi (some y11) fun v=>some (.inr v)) else(bif (field:Int)==2 then(bi (Lfn k s.Join ((s.Kind:Int)==3)) fun y17=>bi (some y17) fun v=>some (.inr v)) else(bif (field:Int)==3 then(bi (Lfo s.Public) fun y23=>bif !y23 then(bi (some 5) fun v=>some (.inr v)) else(some (.inl ()))) else(bif (field:Int)==4 then(bi (Lfn k s.Name false) fun y31=>bi (some y31) fun v=>some (.inr v)) else(bif (field:Int)==5 then(bi (Lfp k s.Tags) fun y37=>bi (some y37) fun v=>some (.inr v)) else(bif (field:Int)==6 then(bi (Lfq s.Until) fun y43=>bi (some y43) fun v=>some (.inr v)) else(bif (field:Int)==7 then(bi (Lfq s.Uses) fun y49=>bi (some y49) fun v=>some (.inr v)) else(some (.inl ()))))))))):Option (Unit ⊕ Int)) fun q=>orI q fun a3=>some 0
def Lfs(s:List Int)(v:Int):Option Int:=
 bi (rangeM (σ:=Unit) (ρ:=Int) (fun i1 x3 s2=>bif (v:Int)==x3 then(bi (some (i1:Int)) fun v=>some (.out v)) else(some (.go ()))) 0 s ()) fun q=>goI q fun a6=>some (-1)
def Lft(s:List Int)(v:Int):Option Bool:=
 bi (Lfs s v) fun y1=>some (decide ((y1:Int)≥0))
def Lfu(s:Ldh)(field:Int):Option Bool:=
 bif (field:Int)==0 then(some ((s.By:Str)==[])) else(bif (field:Int)==1 then(some ((s.Node:Str)==[])) else(bif (field:Int)==2 then(some ((s.Join:Str)==[])) else(bif (field:Int)==3 then(some ((s.Public:Str)==[])) else(bif (field:Int)==4 then(some ((s.Name:Str)==[])) else(bif (field:Int)==5 then(some (((s.Tags.length:Int):Int)==0)) else(bif (field:Int)==6 then(some ((s.Until:Int)==0)) else(bif (field:Int)==7 then(some ((s.Uses:Int)==0)) else(some (!s.Ready)))))))))
def Lfv(k:Nat)(s:Ldh):Option Int:=
 bi (Lfl s.At) fun y1=>bif !y1 then(some 1) else(bi (Lfh k s.Server) fun y5=>bif !y5 then(some 5) else(bi (Lfj s.No 1 1000000) fun y9=>bif y9 then(some 1) else(bi (Lfj s.Kind 1 9) fun y13=>bif y13 then(some 4) else(bi (Lfm s.Kind) fun y17=>bi (rangeM (σ:=Unit) (ρ:=Int) (fun i19 x21 s20=>bi (Lfr k s x21) fun y30=>bif (y30:Int) != 0 then(bi (some y30) fun v=>some (.out v)) else(some (.go ()))) 0 y17 ()) fun q=>goI q fun a24=>bi (loopM (σ:=Int) (ρ:=Unit ⊕ Int) (fun s37=>bif decide ((s37:Int)<9) then(bi (Lft y17 s37) fun y47=>bi (bif !y47 then(bi (Lfu s s37) fun y52=>some (!y52)) else(some false)) fun q49=>bif q49 then(bi (some 3) fun v=>some (.out (.inr v))) else(some (.go (wi (s37+1))))) else(some (.out (.inl ())))) k 0) fun q=>orI q fun a41=>some 0))))
def Lfw(a:Ldh)(b:Ldh):Option Int:=
 bi (Lef a.At b.At) fun y1=>bi (Kqv a.Server b.Server) fun y3=>bi (Lef a.No b.No) fun y5=>bi (Leg [y1,y3,y5]) fun y7=>some y7
def Lfx(s:Ldh):Option Ldj:=
 some (⟨s.Server,s.No⟩:Ldj)
def Lfy(k:Nat)(l:List Ldh):Option Int:=
 bif decide (((l.length:Int):Int)>2000) then(some 2) else(bi (rangeM (σ:=List (Ldj×Bool)) (ρ:=Int) (fun i3 x5 s4=>bi (Lfv k x5) fun y14=>bif (y14:Int) != 0 then(bi (some y14) fun v=>some (.out v)) else(bi (bif decide (((i3:Int):Int)>0) then(bi (getZ l (wi ((i3:Int) - 1))) fun x23=>bi (Lfw x23 x5) fun y25=>some (decide ((y25:Int)≥0))) else(some false)) fun q20=>bif q20 then(bi (some 7) fun v=>some (.out v)) else(bi (Lfx x5) fun y32=>bif ((mGet s4 y32).getD false) then(bi (some 6) fun v=>some (.out v)) else(bi (Lfx x5) fun y38=>some (.go (mSet s4 y38 true)))))) 0 l ([]:List (Ldj×Bool))) fun q=>goI q fun a8=>some 0)
def Lfz(k:Nat)(d:Ldg)(l:List Ldh):Option Int:=
 bi (Lfk k d) fun y1=>bif (y1:Int) != 0 then(some y1) else(bi (Lfy k l) fun y5=>some y5)
def Lga(d:Ldg):Option Ldn:=
 bi (rangeF (σ:=List (Str×Bool)) (fun i1 x3 s2=>some (mSet s2 x3 true)) 0 d.Users ([]:List (Str×Bool))) fun q4=>some (⟨d,q4,([]:List (Str×Nat)),([]:List (Str×Ldl)),([]:List (Str×(Tl Ldm)))⟩:Ldn)
def Lgb(p:Nat)(v_at:Int)(al:BagT):Option Int:=
 bif (p==0) then(some 0) else(gd (Nat.blt 0 p) (bi (hGet al.2.1 p) fun m5=>bi (bif m5.revoked then(some true) else(gd (Nat.blt 0 p) (bi (hGet al.2.1 p) fun m13=>some (decide ((v_at:Int)≥m13.Join.Until))))) fun q7=>bif q7 then(some 11) else(gd (Nat.blt 0 p) (bi (hGet al.2.1 p) fun m19=>gd (Nat.blt 0 p) (bi (hGet al.2.1 p) fun m23=>bif decide ((m19.used:Int)≥m23.Join.Left) then(some 12) else(some 0))))))
def Lgc(n:Ldn)(v_public:Str):Option Bool:=
 bi (rangePM (σ:=Unit) (ρ:=Bool) (fun x8 s7=>bif (x8.2.Public:Str)==v_public then(bi (some true) fun v=>some (.out v)) else(some (.go ()))) n.there ()) fun q=>goI q fun s7=>some false
def Lgd(s:List Str):Option (List Str):=
 bi (apd ([]:List Str) s) fun y1=>some y1
def Lge(n:Ldn)(v_at:Int)(user:Str):Option Int:=
 bif (user:Str)==[] then(some 345686400) else(some (if (wi (v_at+n.d.Life))<345686400 then wi (v_at+n.d.Life) else 345686400))
def Lgf(n:Ldn)(v_at:Int)(m:Ldl)(key:Bool)(al:BagT):Option (Ldn×BagT):=
 bi (appT al.1 ((mGet n.story m.Node).getD (1,[])) [(⟨v_at,m,false,key⟩:Ldm)]) fun y1=>some ((⟨n.d,n.users,n.passes,(mSet n.there m.Node m),(mSet n.story m.Node y1.1)⟩:Ldn),(y1.2,al.2.1,al.2.2.1,al.2.2.2.1,al.2.2.2.2.1,al.2.2.2.2.2))
def Lgg(n:Ldn)(s:Ldh)(al:BagT):Option (Int×Ldn×BagT):=
 bif ((s.By:Str)==[]:Bool)==((s.Join:Str)==[]) then(some (3,n,al)) else(bi (bif !((s.By:Str)==[]) then(bif !((mGet n.users s.By).getD false) then(some true) else(bif (s.By:Str)==[] then(some (((mGet n.passes s.Join).getD 0)==0)) else(some false))) else(bif (s.By:Str)==[] then(some (((mGet n.passes s.Join).getD 0)==0)) else(some false))) fun q3=>bif q3 then(some (8,n,al)) else(bi (Lgb ((mGet n.passes s.Join).getD 0) s.At al) fun y15=>bif (y15:Int) != 0 then(some (y15,n,al)) else(bi (isNilT ((mGet n.story s.Node).getD (1,[]))) fun b19=>bif !b19 then(some (6,n,al)) else(bi (Lgc n s.Public) fun y23=>bif y23 then(some (13,n,al)) else(bif decide (((n.there.length:Int):Int)≥500) then(some (2,n,al)) else(bi (bif !(((mGet n.passes s.Join).getD 0)==0) then(gd (Nat.blt 0 ((mGet n.passes s.Join).getD 0)) (bi (hGet al.2.1 ((mGet n.passes s.Join).getD 0)) fun m34=>gd (Nat.blt 0 ((mGet n.passes s.Join).getD 0)) (bi (hGet al.2.1 ((mGet n.passes s.Join).getD 0)) fun m38=>gd (Nat.blt 0 ((mGet n.passes s.Join).getD 0)) (bi (hGet (hSet al.2.1 ((mGet n.passes s.Join).getD 0) (⟨m38.Join,m38.revoked,wi (m34.used+1)⟩:Ldp)) ((mGet n.passes s.Join).getD 0)) fun m42=>bi (Lgd m42.Join.Tags) fun y44=>gd (Nat.blt 0 ((mGet n.passes s.Join).getD 0)) (bi (hGet (hSet al.2.1 ((mGet n.passes s.Join).getD 0) (⟨m38.Join,m38.revoked,wi (m34.used+1)⟩:Ldp)) ((mGet n.passes s.Join).getD 0)) fun m48=>bi (bif ((m48.Join.Tags.length:Int):Int)==0 then(gd (Nat.blt 0 ((mGet n.passes s.Join).getD 0)) (bi (hGet (hSet al.2.1 ((mGet n.passes s.Join).getD 0) (⟨m38.Join,m38.revoked,wi (m34.used+1)⟩:Ldp)) ((mGet n.passes s.Join).getD 0)) fun m55=>some m55.Join.By)) else(some s.By)) fun q50=>bi (bif !n.d.Approve then(some true) else(gd (Nat.blt 0 ((mGet n.passes s.Join).getD 0)) (bi (hGet (hSet al.2.1 ((mGet n.passes s.Join).getD 0) (⟨m38.Join,m38.revoked,wi (m34.used+1)⟩:Ldp)) ((mGet n.passes s.Join).getD 0)) fun m64=>some m64.Join.Ready))) fun q58=>some ((al.1,(hSet al.2.1 ((mGet n.passes s.Join).getD 0) (⟨m38.Join,m38.revoked,wi (m34.used+1)⟩:Ldp)),al.2.2.1,al.2.2.2.1,al.2.2.2.2.1,al.2.2.2.2.2),(⟨s.Node,q50,s.Name,s.Public,y44,s.At,0,q58⟩:Ldl))))))) else(some (al,(⟨s.Node,s.By,s.Name,s.Public,[],s.At,0,!n.d.Approve⟩:Ldl)))) fun q29=>bi (Lge n s.At q29.2.User) fun y67=>bi (Lgf n s.At (⟨q29.2.Node,q29.2.User,q29.2.Name,q29.2.Public,q29.2.Tags,q29.2.Joined,y67,q29.2.Approved⟩:Ldl) true q29.1) fun y69=>some (0,y69.1,y69.2)))))))
def Lgh(o:Ldf)(x:Str):Option Bool:=
 some ((o.Tag:Str)==x)
def Lgi(s:List Ldf)(f:Str):Option Int:=
 bi (rangeM (σ:=Unit) (ρ:=Int) (fun i1 x3 s2=>bi (Lgh x3 f) fun y12=>bif y12 then(bi (some (i1:Int)) fun v=>some (.out v)) else(some (.go ()))) 0 s ()) fun q=>goI q fun a6=>some (-1)
def Lgj(d:Ldg)(user:Str)(tag:Str):Option (Bool×Bool):=
 bi (Lgi d.Owners tag) fun y1=>bi (bif decide ((y1:Int)≥0) then(bi (getZ d.Owners y1) fun x6=>bi (Ler x6.Users user) fun y8=>some y8) else(some false)) fun q3=>some (q3,decide ((y1:Int)≥0))
def Lgk(n:Ldn)(user:Str)(tags:List Str):Option Int:=
 bi (rangeM (σ:=Unit) (ρ:=Int) (fun i1 x3 s2=>bi (Lgj n.d user x3) fun y12=>bif !y12.2 then(bi (some 8) fun v=>some (.out v)) else(bif !y12.1 then(bi (some 16) fun v=>some (.out v)) else(some (.go ())))) 0 tags ()) fun q=>goI q fun a6=>some 0
def Lgl(n:Ldn)(s:Ldh)(al:BagT):Option (Int×Ldn×BagT):=
 bif !(((mGet n.passes s.Join).getD 0)==0) then(some (6,n,al)) else(bi (Lfj s.Uses 1 1000) fun y3=>bi (bif y3 then(some true) else(bi (Lfj s.Until (wi (s.At+1)) 345686400) fun y9=>some y9)) fun q5=>bif q5 then(some (1,n,al)) else(bi (Lgk n s.By s.Tags) fun y13=>bif (y13:Int) != 0 then(some (y13,n,al)) else(bi (Lgd s.Tags) fun y17=>some (0,(⟨n.d,n.users,(mSet n.passes s.Join (al.1.length+1)),n.there,n.story⟩:Ldn),((al.1++[false]),((al.1.length,(⟨(⟨s.Join,s.By,y17,s.Until,s.Uses,s.Ready⟩:Ldo),false,0⟩:Ldp)) :: al.2.1),al.2.2.1,al.2.2.2.1,al.2.2.2.2.1,al.2.2.2.2.2)))))
def Lgm(n:Ldn)(s:Ldh)(al:BagT):Option (Int×BagT):=
 bif (((mGet n.passes s.Join).getD 0)==0) then(some (8,al)) else(gd (Nat.blt 0 ((mGet n.passes s.Join).getD 0)) (bi (hGet al.2.1 ((mGet n.passes s.Join).getD 0)) fun m5=>bif !((m5.Join.By:Str)==s.By) then(some (16,al)) else(gd (Nat.blt 0 ((mGet n.passes s.Join).getD 0)) (bi (hGet al.2.1 ((mGet n.passes s.Join).getD 0)) fun m11=>bif m11.revoked then(some (11,al)) else(gd (Nat.blt 0 ((mGet n.passes s.Join).getD 0)) (bi (hGet al.2.1 ((mGet n.passes s.Join).getD 0)) fun m17=>some (0,(al.1,(hSet al.2.1 ((mGet n.passes s.Join).getD 0) (⟨m17.Join,true,m17.used⟩:Ldp)),al.2.2.1,al.2.2.2.1,al.2.2.2.2.1,al.2.2.2.2.2))))))))
def Lgn(t:Str)(x:Ldn)(x2:Str):Option Bool:=
 bi (Lgj x.d x2 t) fun y1=>some y1.1
def Lgo(s:List Str)(f:Ldn)(f2:Str):Option Int:=
 bi (rangeM (σ:=Unit) (ρ:=Int) (fun i1 x3 s2=>bi (Lgn x3 f f2) fun y12=>bif y12 then(bi (some (i1:Int)) fun v=>some (.out v)) else(some (.go ()))) 0 s ()) fun q=>goI q fun a6=>some (-1)
def Lgp(s:List Str)(f:Ldn)(f2:Str):Option Bool:=
 bi (Lgo s f f2) fun y1=>some (decide ((y1:Int)≥0))
def Lgq(n:Ldn)(user:Str)(m:Ldl):Option Bool:=
 bif (user:Str)==m.User then(some true) else(bi (Lgp m.Tags n user) fun y3=>some y3)
def Lgr(n:Ldn)(s:Ldh)(m:Ldl)(al:BagT):Option (Int×Ldn×BagT):=
 bi (bif (s.Kind:Int)==4 then(bif m.Approved then(bi (some (11,n,al)) fun v=>some (.inr v)) else(some (.inl ((⟨m.Node,m.User,m.Name,m.Public,m.Tags,m.Joined,m.Expires,true⟩:Ldl),false)))) else(bif (s.Kind:Int)==5 then(bi (Lgc n s.Public) fun y11=>bif y11 then(bi (some (13,n,al)) fun v=>some (.inr v)) else(bi (Lge n s.At m.User) fun y17=>some (.inl ((⟨m.Node,m.User,m.Name,s.Public,m.Tags,m.Joined,y17,m.Approved⟩:Ldl),true)))) else(bif (s.Kind:Int)==6 then(bif (m.Name:Str)==s.Name then(bi (some (6,n,al)) fun v=>some (.inr v)) else(some (.inl ((⟨m.Node,m.User,s.Name,m.Public,m.Tags,m.Joined,m.Expires,m.Approved⟩:Ldl),false)))) else(bif (s.Kind:Int)==7 then(bif ((s.Tags.length:Int):Int)==0 then(bi (some (3,n,al)) fun v=>some (.inr v)) else(bi (Lgk n s.By s.Tags) fun y31=>bif (y31:Int) != 0 then(bi (some (y31,n,al)) fun v=>some (.inr v)) else(bi (Lgd s.Tags) fun y37=>some (.inl ((⟨m.Node,[],m.Name,m.Public,y37,m.Joined,345686400,m.Approved⟩:Ldl),false))))) else(bif (s.Kind:Int)==8 then(bif decide ((m.Expires:Int)≤s.At) then(bi (some (11,n,al)) fun v=>some (.inr v)) else(some (.inl ((⟨m.Node,m.User,m.Name,m.Public,m.Tags,m.Joined,s.At,m.Approved⟩:Ldl),false)))) else(bi (appT al.1 ((mGet n.story s.Node).getD (1,[])) [(⟨s.At,(⟨[],[],[],[],[],0,0,false⟩:Ldl),true,false⟩:Ldm)]) fun y46=>bi (some (0,(⟨n.d,n.users,n.passes,(mDel n.there s.Node),(mSet n.story s.Node y46.1)⟩:Ldn),(y46.2,al.2.1,al.2.2.1,al.2.2.2.1,al.2.2.2.2.1,al.2.2.2.2.2))) fun v=>some (.inr v)))))):Option ((Ldl×Bool) ⊕ (Int×Ldn×BagT))) fun q=>orI q fun a3=>bi (Lgf n s.At a3.1 a3.2 al) fun y50=>some (0,y50.1,y50.2)
def Lgs(n:Ldn)(s:Ldh)(al:BagT):Option (Int×Ldn×BagT):=
 bif (s.Kind:Int)==3 then(bi (Lgg n s al) fun y2=>some (y2.1,y2.2.1,y2.2.2)) else(bif !((mGet n.users s.By).getD false) then(some (8,n,al)) else(bif (s.Kind:Int)==1 then(bi (Lgl n s al) fun y8=>some (y8.1,y8.2.1,y8.2.2)) else(bif (s.Kind:Int)==2 then(bi (Lgm n s al) fun y12=>some (y12.1,n,y12.2)) else(bif !((mGet n.there s.Node).isSome) then(some (8,n,al)) else(bi (bif (s.Kind:Int) != 4 then(bi (Lgq n s.By ((mGet n.there s.Node).getD (⟨[],[],[],[],[],0,0,false⟩:Ldl))) fun y20=>some (!y20)) else(some false)) fun q17=>bif q17 then(some (16,n,al)) else(bi (Lgr n s ((mGet n.there s.Node).getD (⟨[],[],[],[],[],0,0,false⟩:Ldl)) al) fun y25=>some (y25.1,y25.2.1,y25.2.2)))))))
def Lgt(d:Ldg)(l:List Ldh)(v_at:Int)(al:BagT):Option (Ldn×BagT):=
 bi (Lga d) fun y1=>bi (rangeF (σ:=BagT×(List (Str×Bool))×(List (Str×Nat))×(List (Str×Ldl))×(List (Str×(Tl Ldm)))×(List Str)×(List Ldf)×Int×Bool) (fun i3 x5 s4=>bif decide ((x5.At:Int)≤v_at) then(bi (Lgs (⟨(⟨s4.2.2.2.2.2.1,s4.2.2.2.2.2.2.1,s4.2.2.2.2.2.2.2.1,s4.2.2.2.2.2.2.2.2⟩:Ldg),s4.2.1,s4.2.2.1,s4.2.2.2.1,s4.2.2.2.2.1⟩:Ldn) x5 s4.1) fun y15=>some (y15.2.2,y15.2.1.users,y15.2.1.passes,y15.2.1.there,y15.2.1.story,y15.2.1.d.Users,y15.2.1.d.Owners,y15.2.1.d.Life,y15.2.1.d.Approve)) else(some (s4.1,s4.2.1,s4.2.2.1,s4.2.2.2.1,s4.2.2.2.2.1,s4.2.2.2.2.2.1,s4.2.2.2.2.2.2.1,s4.2.2.2.2.2.2.2.1,s4.2.2.2.2.2.2.2.2))) 0 l (al,y1.users,y1.passes,y1.there,y1.story,y1.d.Users,y1.d.Owners,y1.d.Life,y1.d.Approve)) fun q6=>some ((⟨(⟨q6.2.2.2.2.2.1,q6.2.2.2.2.2.2.1,q6.2.2.2.2.2.2.2.1,q6.2.2.2.2.2.2.2.2⟩:Ldg),q6.2.1,q6.2.2.1,q6.2.2.2.1,q6.2.2.2.2.1⟩:Ldn),q6.1)
def Lgu(d:Ldg)(l:List Ldh)(al:BagT):Option (Ldn×BagT):=
 bi (Lgt d l 345686400 al) fun y1=>some (y1.1,y1.2)
def Lgv(v_to:Int)(x:Ldk)(x2:List Ldk):Option (Ldk×(List Ldk)):=
 bi (bif ((!((x.Public:Str)==[]))&&(decide ((x.From:Int)<v_to))) then(bi (apd x2 [(⟨x.Public,x.From,v_to⟩:Ldk)]) fun y4=>some y4) else(some x2)) fun q1=>some ((⟨[],0,0⟩:Ldk),q1)
def Lgw(k:Nat)(d:Ldg)(l:List Ldh)(node:Str)(al:BagT):Option ((List Ldk)×Int×BagT):=
 bi (Lfz k d l) fun y1=>bif (y1:Int) != 0 then(some ([],y1,al)) else(bi (Lfh k node) fun y5=>bif !y5 then(some ([],5,al)) else(bi (Lgu d l al) fun y9=>bi (rangeF (σ:=(List Ldk)×Ldk) (fun i11 x13 s12=>bi (bif (x13.key||x13.gone) then(bi (Lgv x13.v_at s12.2 s12.1) fun y25=>some (y25.2,y25.1)) else(some (s12.1,s12.2))) fun q22=>bif x13.key then(some (q22.1,(⟨x13.is.Public,x13.v_at,0⟩:Ldk))) else(some (q22.1,q22.2))) 0 (((mGet y9.1.story node).getD (1,[])).2) (([]:List Ldk),(⟨[],0,0⟩:Ldk))) fun q14=>bi (Lgv 345686400 q14.2 q14.1) fun y30=>some (y30.2,0,y9.2)))
def Lgx(k:Nat)(d:Ldg)(l:List Ldh)(v_public:Str)(moment:Int)(al:BagT):Option (Str×Bool×Int×BagT):=
 bi (Lfz k d l) fun y1=>bif (y1:Int) != 0 then(some ([],false,y1,al)) else(bi (Lfo v_public) fun y5=>bif !y5 then(some ([],false,5,al)) else(bi (Lfl moment) fun y9=>bif !y9 then(some ([],false,1,al)) else(bi (Lgt d l moment al) fun y13=>bi (rangePM (σ:=Unit) (ρ:=Str×Bool×Int×BagT) (fun x22 s21=>bif (x22.2.Public:Str)==v_public then(bi (some (x22.1,true,0,y13.2)) fun v=>some (.out v)) else(some (.go ()))) y13.1.there ()) fun q=>goI q fun s21=>some ([],false,0,y13.2))))
def Lgy(m:Ldl):Option Ldl:=
 bi (Lgd m.Tags) fun y1=>some (⟨m.Node,m.User,m.Name,m.Public,y1,m.Joined,m.Expires,m.Approved⟩:Ldl)
def Lgz(n:Ldn):Option (List Ldl):=
 gd ((decide (n.there.length≤4294967296))&&n.there.all (fun e=>decide (e.1.length≤4294967296))) (bi (rangeF (σ:=List Ldl) (fun i3 x5 s4=>bi (Lgy ((mGet n.there x5).getD (⟨[],[],[],[],[],0,0,false⟩:Ldl))) fun y14=>bi (apd s4 [y14]) fun y16=>some y16) 0 (sortK n.there) ([]:List Ldl)) fun q6=>some q6)
def Lha(u:Str)(x:Str)(x2:Ldn)(x3:Ldl):Option Bool:=
 bi (bif !((u:Str)==x) then(bi (Lgq x2 u x3) fun y4=>some y4) else(some false)) fun q1=>some q1
def Lhb(s:List Str)(f:Str)(f2:Ldn)(f3:Ldl):Option Int:=
 bi (rangeM (σ:=Unit) (ρ:=Int) (fun i1 x3 s2=>bi (Lha x3 f f2 f3) fun y12=>bif y12 then(bi (some (i1:Int)) fun v=>some (.out v)) else(some (.go ()))) 0 s ()) fun q=>goI q fun a6=>some (-1)
def Lhc(s:List Str)(f:Str)(f2:Ldn)(f3:Ldl):Option Bool:=
 bi (Lhb s f f2 f3) fun y1=>some (decide ((y1:Int)≥0))
def Lhd(k:Nat)(d:Ldg)(l:List Ldh)(user:Str)(moment:Int)(alone:Bool)(al:BagT):Option ((List Str)×Int×BagT):=
 bi (Lfz k d l) fun y1=>bif (y1:Int) != 0 then(some ([],y1,al)) else(bi (Ler d.Users user) fun y5=>bif !y5 then(some ([],8,al)) else(bi (Lfl moment) fun y9=>bif !y9 then(some ([],1,al)) else(bi (Lgt d l moment al) fun y13=>bi (Lgz y13.1) fun y15=>bi (rangeF (σ:=List Str) (fun i17 x19 s18=>bi (Lhc d.Users user y13.1 x19) fun y28=>bi (Lgq y13.1 user x19) fun y30=>bif (y30&&(!(alone&&y28))) then(bi (apd s18 [x19.Node]) fun y33=>some y33) else(some s18)) 0 y15 ([]:List Str)) fun q20=>some (q20,0,y13.2))))
def Lhe(k:Nat)(d:Ldg)(l:List Ldh)(user:Str)(moment:Int)(al:BagT):Option ((List Str)×Int×BagT):=
 bi (Lhd k d l user moment false al) fun y1=>some (y1.1,y1.2.1,y1.2.2)
def Lhf(k:Nat)(d:Ldg)(l:List Ldh)(user:Str)(moment:Int)(al:BagT):Option ((List Str)×Int×BagT):=
 bi (Lhd k d l user moment true al) fun y1=>some (y1.1,y1.2.1,y1.2.2)
def Lhg(s:Str):Option Int:=
 bi (Lew s) fun y1=>some y1
def Lhh(is:Bool)(e:Int):Option Int:=
 bif is then(some e) else(some 0)
def Lhi(v_at:Int):Option Int:=
 bi (Leu v_at) fun y1=>bif !y1 then(some 1) else(some 0)
def Lhj(d:Ldg):Option Ldq:=
 some (⟨d,([]:List (Str×Nat)),([]:List (Str×Nat)),([]:List (Str×Bool)),([]:List (Str×Vl))⟩:Ldq)
def Lhk(d:Ldg)(tag:Str):Option ((List Str)×Bool):=
 bi (rangeM (σ:=Unit) (ρ:=(List Str)×Bool) (fun i1 x3 s2=>bif (x3.Tag:Str)==tag then(bi (some (x3.Users,true)) fun v=>some (.out v)) else(some (.go ()))) 0 d.Owners ()) fun q=>goI q fun a6=>some ([],false)
def Lhl(d:Ldg)(user:Str)(tags:List Str):Option Int:=
 bi (rangeM (σ:=Unit) (ρ:=Int) (fun i1 x3 s2=>bi (Lhk d x3) fun y12=>bif !y12.2 then(bi (some 8) fun v=>some (.out v)) else(bi (Ler y12.1 user) fun y18=>bif !y18 then(bi (some 16) fun v=>some (.out v)) else(some (.go ())))) 0 tags ()) fun q=>goI q fun a6=>some 0
def Lhm(v_h:Ldq)(s:Ldh)(al:BagT):Option (Int×Ldq×BagT):=
 bi (Ler v_h.d.Users s.By) fun y1=>bif !y1 then(some (8,v_h,al)) else(bif (((s.Kind:Int)==2)&&(((mGet v_h.keys s.Join).getD 0)==0)) then(some (8,v_h,al)) else(bi (bif (s.Kind:Int)==2 then(gd (Nat.blt 0 ((mGet v_h.keys s.Join).getD 0)) (bi (hGet al.2.2.2.2.1 ((mGet v_h.keys s.Join).getD 0)) fun m12=>some (!((m12.Join.By:Str)==s.By)))) else(some false)) fun q7=>bif q7 then(some (16,v_h,al)) else(bi (bif (s.Kind:Int)==2 then(gd (Nat.blt 0 ((mGet v_h.keys s.Join).getD 0)) (bi (hGet al.2.2.2.2.1 ((mGet v_h.keys s.Join).getD 0)) fun m22=>some m22.revoked)) else(some false)) fun q17=>bif q17 then(some (11,v_h,al)) else(bif (s.Kind:Int)==2 then(gd (Nat.blt 0 ((mGet v_h.keys s.Join).getD 0)) (bi (hGet al.2.2.2.2.1 ((mGet v_h.keys s.Join).getD 0)) fun m30=>some (0,v_h,(al.1,al.2.1,al.2.2.1,al.2.2.2.1,(hSet al.2.2.2.2.1 ((mGet v_h.keys s.Join).getD 0) (⟨m30.Join,true,m30.used⟩:Lds)),al.2.2.2.2.2)))) else(bif !(((mGet v_h.keys s.Join).getD 0)==0) then(some (6,v_h,al)) else(bi (Les s.Uses 1 1000) fun y35=>bif (((!y35)||(decide ((s.Until:Int)≤s.At)))||(decide ((s.Until:Int)>345686400))) then(some (1,v_h,al)) else(bi (Lhl v_h.d s.By s.Tags) fun y39=>bif (y39:Int) != 0 then(some (y39,v_h,al)) else(bi (Lgd s.Tags) fun y43=>some (0,(⟨v_h.d,(mSet v_h.keys s.Join (al.1.length+1)),v_h.nodes,v_h.ever,v_h.History⟩:Ldq),((al.1++[false]),al.2.1,al.2.2.1,al.2.2.2.1,((al.1.length,(⟨(⟨s.Join,s.By,y43,s.Until,s.Uses,s.Ready⟩:Ldo),false,0⟩:Lds)) :: al.2.2.2.2.1),al.2.2.2.2.2))))))))))
def Lhn(v_h:Ldq)(v_public:Str)(al:BagT):Option Bool:=
 bi (rangePM (σ:=Unit) (ρ:=Bool) (fun x8 s7=>gd (Nat.blt 0 x8.2) (bi (hGet al.2.2.2.1 x8.2) fun m20=>bif (m20.Public:Str)==v_public then(bi (some true) fun v=>some (.out v)) else(some (.go ())))) v_h.nodes ()) fun q=>goI q fun s7=>some false
def Lho(v_h:Ldq)(s:Ldh)(al:BagT):Option (Int×Ldq×BagT):=
 bif ((s.By:Str)==[]:Bool)==((s.Join:Str)==[]) then(some (3,v_h,al)) else(bi (bif !((s.By:Str)==[]) then(bi (Ler v_h.d.Users s.By) fun y6=>bif !y6 then(some true) else(bif !((s.Join:Str)==[]) then(some (((mGet v_h.keys s.Join).getD 0)==0)) else(some false))) else(bif !((s.Join:Str)==[]) then(some (((mGet v_h.keys s.Join).getD 0)==0)) else(some false))) fun q3=>bif q3 then(some (8,v_h,al)) else(bi (bif !(((mGet v_h.keys s.Join).getD 0)==0) then(gd (Nat.blt 0 ((mGet v_h.keys s.Join).getD 0)) (bi (hGet al.2.2.2.2.1 ((mGet v_h.keys s.Join).getD 0)) fun m22=>bif m22.revoked then(some true) else(gd (Nat.blt 0 ((mGet v_h.keys s.Join).getD 0)) (bi (hGet al.2.2.2.2.1 ((mGet v_h.keys s.Join).getD 0)) fun m28=>some (decide ((s.At:Int)≥m28.Join.Until)))))) else(some false)) fun q17=>bif q17 then(some (11,v_h,al)) else(bi (bif !(((mGet v_h.keys s.Join).getD 0)==0) then(gd (Nat.blt 0 ((mGet v_h.keys s.Join).getD 0)) (bi (hGet al.2.2.2.2.1 ((mGet v_h.keys s.Join).getD 0)) fun m38=>gd (Nat.blt 0 ((mGet v_h.keys s.Join).getD 0)) (bi (hGet al.2.2.2.2.1 ((mGet v_h.keys s.Join).getD 0)) fun m42=>some (decide ((m38.used:Int)≥m42.Join.Left))))) else(some false)) fun q33=>bif q33 then(some (12,v_h,al)) else(bif ((mGet v_h.ever s.Node).getD false) then(some (6,v_h,al)) else(bi (Lhn v_h s.Public al) fun y49=>bif y49 then(some (13,v_h,al)) else(bif decide (((v_h.nodes.length:Int):Int)≥500) then(some (2,v_h,al)) else(bi (bif !(((mGet v_h.keys s.Join).getD 0)==0) then(gd (Nat.blt 0 ((mGet v_h.keys s.Join).getD 0)) (bi (hGet al.2.2.2.2.1 ((mGet v_h.keys s.Join).getD 0)) fun m60=>gd (Nat.blt 0 ((mGet v_h.keys s.Join).getD 0)) (bi (hGet al.2.2.2.2.1 ((mGet v_h.keys s.Join).getD 0)) fun m64=>bi (bif !v_h.d.Approve then(some true) else(gd (Nat.blt 0 ((mGet v_h.keys s.Join).getD 0)) (bi (hGet (hSet al.2.2.2.2.1 ((mGet v_h.keys s.Join).getD 0) (⟨m64.Join,m64.revoked,wi (m60.used+1)⟩:Lds)) ((mGet v_h.keys s.Join).getD 0)) fun m72=>some m72.Join.Ready))) fun q66=>gd (Nat.blt 0 ((mGet v_h.keys s.Join).getD 0)) (bi (hGet (hSet al.2.2.2.2.1 ((mGet v_h.keys s.Join).getD 0) (⟨m64.Join,m64.revoked,wi (m60.used+1)⟩:Lds)) ((mGet v_h.keys s.Join).getD 0)) fun m76=>gd (Nat.blt 0 ((mGet v_h.keys s.Join).getD 0)) (bi (hGet (hSet al.2.2.2.2.1 ((mGet v_h.keys s.Join).getD 0) (⟨m64.Join,m64.revoked,wi (m60.used+1)⟩:Lds)) ((mGet v_h.keys s.Join).getD 0)) fun m80=>bif decide (((m80.Join.Tags.length:Int):Int)>0) then(gd (Nat.blt 0 ((mGet v_h.keys s.Join).getD 0)) (bi (hGet (hSet al.2.2.2.2.1 ((mGet v_h.keys s.Join).getD 0) (⟨m64.Join,m64.revoked,wi (m60.used+1)⟩:Lds)) ((mGet v_h.keys s.Join).getD 0)) fun m85=>bi (Lgd m85.Join.Tags) fun y87=>some ((al.1,al.2.1,al.2.2.1,al.2.2.2.1,(hSet al.2.2.2.2.1 ((mGet v_h.keys s.Join).getD 0) (⟨m64.Join,m64.revoked,wi (m60.used+1)⟩:Lds)),al.2.2.2.2.2),(⟨s.Node,[],s.Name,s.Public,y87,s.At,345686400,q66⟩:Ldl)))) else(some ((al.1,al.2.1,al.2.2.1,al.2.2.2.1,(hSet al.2.2.2.2.1 ((mGet v_h.keys s.Join).getD 0) (⟨m64.Join,m64.revoked,wi (m60.used+1)⟩:Lds)),al.2.2.2.2.2),(⟨s.Node,m76.Join.By,s.Name,s.Public,[],s.At,(if 345686400<(wi (s.At+v_h.d.Life)) then 345686400 else wi (s.At+v_h.d.Life)),q66⟩:Ldl)))))))) else(some (al,(⟨s.Node,s.By,s.Name,s.Public,[],s.At,(if 345686400<(wi (s.At+v_h.d.Life)) then 345686400 else wi (s.At+v_h.d.Life)),!v_h.d.Approve⟩:Ldl)))) fun q55=>some (0,(⟨v_h.d,v_h.keys,(mSet v_h.nodes s.Node (q55.1.1.length+1)),(mSet v_h.ever s.Node true),(mSet v_h.History s.Node ((q55.1.1++[false]).length+1,[(⟨s.Public,s.At,345686400⟩:Ldk)].length))⟩:Ldq),(((q55.1.1++[false])++[true]),q55.1.2.1,(((q55.1.1++[false]).length,[(⟨s.Public,s.At,345686400⟩:Ldk)]) :: q55.1.2.2.1),((q55.1.1.length,q55.2) :: q55.1.2.2.2.1),q55.1.2.2.2.2.1,q55.1.2.2.2.2.2)))))))))
def Lhp(t:Str)(x:Ldg)(x2:Str):Option Bool:=
 bi (Lhk x t) fun y1=>bi (Ler y1.1 x2) fun y3=>some y3
def Lhq(s:List Str)(f:Ldg)(f2:Str):Option Int:=
 bi (rangeM (σ:=Unit) (ρ:=Int) (fun i1 x3 s2=>bi (Lhp x3 f f2) fun y12=>bif y12 then(bi (some (i1:Int)) fun v=>some (.out v)) else(some (.go ()))) 0 s ()) fun q=>goI q fun a6=>some (-1)
def Lhr(s:List Str)(f:Ldg)(f2:Str):Option Bool:=
 bi (Lhq s f f2) fun y1=>some (decide ((y1:Int)≥0))
def Lhs(d:Ldg)(user:Str)(m:Ldl):Option Bool:=
 bi (bif (m.User:Str)==user then(some true) else(bi (Lhr m.Tags d user) fun y5=>some y5)) fun q1=>some q1
def Lht(v_h:Ldq)(s:Ldh)(m:Nat)(al:BagT):Option (Int×Ldq×BagT):=
 bi (bif (s.Kind:Int)==5 then(bi (Lhn v_h s.Public al) fun y5=>bif y5 then(bi (some (13,v_h,al)) fun v=>some (.inr v)) else(gd (Nat.blt 0 m) (bi (hGet al.2.2.2.1 m) fun m13=>gd (Nat.blt 0 m) (bi (hGet (hSet al.2.2.2.1 m (⟨m13.Node,m13.User,m13.Name,s.Public,m13.Tags,m13.Joined,m13.Expires,m13.Approved⟩:Ldl)) m) fun m17=>gd (Nat.blt 0 m) (bi (hGet (hSet (hSet al.2.2.2.1 m (⟨m13.Node,m13.User,m13.Name,s.Public,m13.Tags,m13.Joined,m13.Expires,m13.Approved⟩:Ldl)) m (⟨m17.Node,m17.User,m17.Name,m17.Public,m17.Tags,m17.Joined,345686400,m17.Approved⟩:Ldl)) m) fun m21=>bi (bif !((m21.User:Str)==[]) then(gd (Nat.blt 0 m) (bi (hGet (hSet (hSet al.2.2.2.1 m (⟨m13.Node,m13.User,m13.Name,s.Public,m13.Tags,m13.Joined,m13.Expires,m13.Approved⟩:Ldl)) m (⟨m17.Node,m17.User,m17.Name,m17.Public,m17.Tags,m17.Joined,345686400,m17.Approved⟩:Ldl)) m) fun m28=>some (al.1,al.2.1,al.2.2.1,(hSet (hSet (hSet al.2.2.2.1 m (⟨m13.Node,m13.User,m13.Name,s.Public,m13.Tags,m13.Joined,m13.Expires,m13.Approved⟩:Ldl)) m (⟨m17.Node,m17.User,m17.Name,m17.Public,m17.Tags,m17.Joined,345686400,m17.Approved⟩:Ldl)) m (⟨m28.Node,m28.User,m28.Name,m28.Public,m28.Tags,m28.Joined,(if 345686400<(wi (s.At+v_h.d.Life)) then 345686400 else wi (s.At+v_h.d.Life)),m28.Approved⟩:Ldl)),al.2.2.2.2.1,al.2.2.2.2.2))) else(some (al.1,al.2.1,al.2.2.1,(hSet (hSet al.2.2.2.1 m (⟨m13.Node,m13.User,m13.Name,s.Public,m13.Tags,m13.Joined,m13.Expires,m13.Approved⟩:Ldl)) m (⟨m17.Node,m17.User,m17.Name,m17.Public,m17.Tags,m17.Joined,345686400,m17.Approved⟩:Ldl)),al.2.2.2.2.1,al.2.2.2.2.2))) fun q23=>gd (Nat.blt 0 ((mGet v_h.History s.Node).getD (0,0)).1) (gd (decide ((0:Int)≤(wi (((((mGet v_h.History s.Node).getD (0,0)).2:Nat):Int) - 1)))&&Nat.blt (wi (((((mGet v_h.History s.Node).getD (0,0)).2:Nat):Int) - 1)).toNat ((mGet v_h.History s.Node).getD (0,0)).2) (bi (hGet q23.2.2.1 (((mGet v_h.History s.Node).getD (0,0)).1)) fun m35=>bi (getZ m35 (wi (((((mGet v_h.History s.Node).getD (0,0)).2:Nat):Int) - 1))) fun x37=>bi (appV q23.1 (hSet q23.2.2.1 (((mGet v_h.History s.Node).getD (0,0)).1) (m35.set (wi (((((mGet v_h.History s.Node).getD (0,0)).2:Nat):Int) - 1)).toNat (⟨x37.Public,x37.From,s.At⟩:Ldk))) ((mGet v_h.History s.Node).getD (0,0)) [(⟨s.Public,s.At,345686400⟩:Ldk)]) fun y40=>some (.inl (v_h.nodes,(mSet v_h.History s.Node y40.1),(y40.2.1,q23.2.1,y40.2.2,q23.2.2.2.1,q23.2.2.2.2.1,q23.2.2.2.2.2)))))))))) else(bif (s.Kind:Int)==6 then(gd (Nat.blt 0 m) (bi (hGet al.2.2.2.1 m) fun m46=>bif (m46.Name:Str)==s.Name then(bi (some (6,v_h,al)) fun v=>some (.inr v)) else(gd (Nat.blt 0 m) (bi (hGet al.2.2.2.1 m) fun m54=>some (.inl (v_h.nodes,v_h.History,(al.1,al.2.1,al.2.2.1,(hSet al.2.2.2.1 m (⟨m54.Node,m54.User,s.Name,m54.Public,m54.Tags,m54.Joined,m54.Expires,m54.Approved⟩:Ldl)),al.2.2.2.2.1,al.2.2.2.2.2))))))) else(bif (s.Kind:Int)==7 then(bif ((s.Tags.length:Int):Int)==0 then(bi (some (3,v_h,al)) fun v=>some (.inr v)) else(bi (Lhl v_h.d s.By s.Tags) fun y62=>bif (y62:Int) != 0 then(bi (some (y62,v_h,al)) fun v=>some (.inr v)) else(bi (Lgd s.Tags) fun y68=>gd (Nat.blt 0 m) (bi (hGet al.2.2.2.1 m) fun m72=>gd (Nat.blt 0 m) (bi (hGet (hSet al.2.2.2.1 m (⟨m72.Node,[],m72.Name,m72.Public,m72.Tags,m72.Joined,m72.Expires,m72.Approved⟩:Ldl)) m) fun m76=>gd (Nat.blt 0 m) (bi (hGet (hSet (hSet al.2.2.2.1 m (⟨m72.Node,[],m72.Name,m72.Public,m72.Tags,m72.Joined,m72.Expires,m72.Approved⟩:Ldl)) m (⟨m76.Node,m76.User,m76.Name,m76.Public,y68,m76.Joined,m76.Expires,m76.Approved⟩:Ldl)) m) fun m80=>some (.inl (v_h.nodes,v_h.History,(al.1,al.2.1,al.2.2.1,(hSet (hSet (hSet al.2.2.2.1 m (⟨m72.Node,[],m72.Name,m72.Public,m72.Tags,m72.Joined,m72.Expires,m72.Approved⟩:Ldl)) m (⟨m76.Node,m76.User,m76.Name,m76.Public,y68,m76.Joined,m76.Expires,m76.Approved⟩:Ldl)) m (⟨m80.Node,m80.User,m80.Name,m80.Public,m80.Tags,m80.Joined,345686400,m80.Approved⟩:Ldl)),al.2.2.2.2.1,al.2.2.2.2.2))))))))) else(bif (s.Kind:Int)==8 then(gd (Nat.blt 0 m) (bi (hGet al.2.2.2.1 m) fun m86=>bif decide ((m86.Expires:Int)≤s.At) then(bi (some (11,v_h,al)) fun v=>some (.inr v)) else(gd (Nat.blt 0 m) (bi (hGet al.2.2.2.1 m) fun m94=>some (.inl (v_h.nodes,v_h.History,(al.1,al.2.1,al.2.2.1,(hSet al.2.2.2.1 m (⟨m94.Node,m94.User,m94.Name,m94.Public,m94.Tags,m94.Joined,s.At,m94.Approved⟩:Ldl)),al.2.2.2.2.1,al.2.2.2.2.2))))))) else(gd (Nat.blt 0 ((mGet v_h.History s.Node).getD (0,0)).1) (gd (decide ((0:Int)≤(wi (((((mGet v_h.History s.Node).getD (0,0)).2:Nat):Int) - 1)))&&Nat.blt (wi (((((mGet v_h.History s.Node).getD (0,0)).2:Nat):Int) - 1)).toNat ((mGet v_h.History s.Node).getD (0,0)).2) (bi (hGet al.2.2.1 (((mGet v_h.History s.Node).getD (0,0)).1)) fun m101=>bi (getZ m101 (wi (((((mGet v_h.History s.Node).getD (0,0)).2:Nat):Int) - 1))) fun x103=>some (.inl ((mDel v_h.nodes s.Node),v_h.History,(al.1,al.2.1,(hSet al.2.2.1 (((mGet v_h.History s.Node).getD (0,0)).1) (m101.set (wi (((((mGet v_h.History s.Node).getD (0,0)).2:Nat):Int) - 1)).toNat (⟨x103.Public,x103.From,s.At⟩:Ldk))),al.2.2.2.1,al.2.2.2.2.1,al.2.2.2.2.2))))))))):Option (((List (Str×Nat))×(List (Str×Vl))×BagT) ⊕ (Int×Ldq×BagT))) fun q=>orI q fun a3=>some (0,(⟨v_h.d,v_h.keys,a3.1,v_h.ever,a3.2.1⟩:Ldq),a3.2.2)
def Lhu(v_h:Ldq)(s:Ldh)(al:BagT):Option (Int×Ldq×BagT):=
 bi (bif (s.Kind:Int)==1 then(some ((s.Kind:Int)==1)) else(some ((s.Kind:Int)==2))) fun q1=>bif q1 then(bi (Lhm v_h s al) fun y6=>some (y6.1,y6.2.1,y6.2.2)) else(bif (s.Kind:Int)==3 then(bi (Lho v_h s al) fun y10=>some (y10.1,y10.2.1,y10.2.2)) else(bi (Ler v_h.d.Users s.By) fun y13=>bif !y13 then(some (8,v_h,al)) else(bif (((mGet v_h.nodes s.Node).getD 0)==0) then(some (8,v_h,al)) else(bif (s.Kind:Int)==4 then(gd (Nat.blt 0 ((mGet v_h.nodes s.Node).getD 0)) (bi (hGet al.2.2.2.1 ((mGet v_h.nodes s.Node).getD 0)) fun m22=>bif m22.Approved then(some (11,v_h,al)) else(gd (Nat.blt 0 ((mGet v_h.nodes s.Node).getD 0)) (bi (hGet al.2.2.2.1 ((mGet v_h.nodes s.Node).getD 0)) fun m28=>some (0,v_h,(al.1,al.2.1,al.2.2.1,(hSet al.2.2.2.1 ((mGet v_h.nodes s.Node).getD 0) (⟨m28.Node,m28.User,m28.Name,m28.Public,m28.Tags,m28.Joined,m28.Expires,true⟩:Ldl)),al.2.2.2.2.1,al.2.2.2.2.2)))))) else(gd (Nat.blt 0 ((mGet v_h.nodes s.Node).getD 0)) (bi (hGet al.2.2.2.1 ((mGet v_h.nodes s.Node).getD 0)) fun m33=>bi (Lhs v_h.d s.By m33) fun y35=>bif !y35 then(some (16,v_h,al)) else(bi (Lht v_h s ((mGet v_h.nodes s.Node).getD 0) al) fun y39=>some (y39.1,y39.2.1,y39.2.2))))))))
def Lhv(d:Ldg)(l:List Ldh)(v_at:Int)(al:BagT):Option (Ldq×(List Ldr)×BagT):=
 bi (Lhj d) fun y1=>bi (rangeM (σ:=BagT×(List (Str×Nat))×(List (Str×Nat))×(List (Str×Bool))×(List (Str×Vl))×(List Str)×(List Ldf)×Int×Bool×(List Ldr)) (ρ:=BagT×(List (Str×Nat))×(List (Str×Nat))×(List (Str×Bool))×(List (Str×Vl))×(List Str)×(List Ldf)×Int×Bool×(List Ldr)) (fun i3 x5 s4=>bif decide ((x5.At:Int)>v_at) then(some (.out (s4.1,s4.2.1,s4.2.2.1,s4.2.2.2.1,s4.2.2.2.2.1,s4.2.2.2.2.2.1,s4.2.2.2.2.2.2.1,s4.2.2.2.2.2.2.2.1,s4.2.2.2.2.2.2.2.2.1,s4.2.2.2.2.2.2.2.2.2))) else(bi (Lhu (⟨(⟨s4.2.2.2.2.2.1,s4.2.2.2.2.2.2.1,s4.2.2.2.2.2.2.2.1,s4.2.2.2.2.2.2.2.2.1⟩:Ldg),s4.2.1,s4.2.2.1,s4.2.2.2.1,s4.2.2.2.2.1⟩:Ldq) x5 s4.1) fun y18=>bif (y18.1:Int) != 0 then(bi (apd s4.2.2.2.2.2.2.2.2.2 [(⟨(i3:Int),y18.1⟩:Ldr)]) fun y21=>some (.go (y18.2.2,y18.2.1.keys,y18.2.1.nodes,y18.2.1.ever,y18.2.1.History,y18.2.1.d.Users,y18.2.1.d.Owners,y18.2.1.d.Life,y18.2.1.d.Approve,y21))) else(some (.go (y18.2.2,y18.2.1.keys,y18.2.1.nodes,y18.2.1.ever,y18.2.1.History,y18.2.1.d.Users,y18.2.1.d.Owners,y18.2.1.d.Life,y18.2.1.d.Approve,s4.2.2.2.2.2.2.2.2.2))))) 0 l (al,y1.keys,y1.nodes,y1.ever,y1.History,y1.d.Users,y1.d.Owners,y1.d.Life,y1.d.Approve,([]:List Ldr))) fun q=>bi (lsN q fun s4=>(s4.1,s4.2.1,s4.2.2.1,s4.2.2.2.1,s4.2.2.2.2.1,s4.2.2.2.2.2.1,s4.2.2.2.2.2.2.1,s4.2.2.2.2.2.2.2.1,s4.2.2.2.2.2.2.2.2.1,s4.2.2.2.2.2.2.2.2.2)) fun q10=>some ((⟨(⟨q10.2.2.2.2.2.1,q10.2.2.2.2.2.2.1,q10.2.2.2.2.2.2.2.1,q10.2.2.2.2.2.2.2.2.1⟩:Ldg),q10.2.1,q10.2.2.1,q10.2.2.2.1,q10.2.2.2.2.1⟩:Ldq),q10.2.2.2.2.2.2.2.2.2,q10.1)
def Lhw(s:List Ldk):Option (List Ldk):=
 bi (apd ([]:List Ldk) s) fun y1=>some y1
def Lhx(x:Ldk):Option Bool:=
 some ((x.From:Int)==x.To)
def Lhy(s:List Ldk):Option Int:=
 bi (rangeM (σ:=Unit) (ρ:=Int) (fun i1 x3 s2=>bi (Lhx x3) fun y12=>bif y12 then(bi (some (i1:Int)) fun v=>some (.out v)) else(some (.go ()))) 0 s ()) fun q=>goI q fun a6=>some (-1)
def Lhz(k:Nat)(s:List Ldk):Option (List Ldk):=
 bi (Lhy s) fun y1=>bif (y1:Int)==(-1) then(some s) else(bi (loopM (σ:=(List Ldk)×Int×Int) (ρ:=(List Ldk)×Int) (fun s6=>bif decide ((s6.2.2:Int)<(s6.1.length:Int)) then(bi (getZ s6.1 s6.2.2) fun x16=>bi (Lhx x16) fun y19=>bif !y19 then(bi (getZ s6.1 s6.2.1) fun x22=>some (.go (s6.1.set s6.2.1.toNat x16,wi (s6.2.1+1),wi (s6.2.2+1)))) else(some (.go (s6.1,s6.2.1,wi (s6.2.2+1))))) else(some (.out (s6.1,s6.2.1)))) k (s,y1,wi (y1+1))) fun q8=>bi (subZ q8.1 q8.2 (q8.1.length:Int)) fun z27=>some (q8.1.take q8.2.toNat))
def Lia(k:Nat)(d:Ldg)(l:List Ldh)(node:Str)(al:BagT):Option ((List Ldk)×BagT):=
 bi (Lhv d l 345686400 al) fun y1=>bi (frzV y1.2.2.1 y1.2.2.2.2.1 ((mGet y1.1.History node).getD (0,0))) fun z3=>bi (Lhw z3.1) fun y5=>bi (Lhz k y5) fun y7=>some (y7,(z3.2.1,y1.2.2.2.1,z3.2.2,y1.2.2.2.2.2.1,y1.2.2.2.2.2.2.1,y1.2.2.2.2.2.2.2))
def Lic(s1:List Ldk)(s2:List Ldk):Option Bool:=
 bif ((s1.length:Int):Int) != (s2.length:Int) then(some false) else(bi (rangeM (σ:=Unit) (ρ:=Bool) (fun i3 x5 s4=>bi (getZ s2 (i3:Int)) fun x14=>bif !(((x5.Public:Str)==x14.Public)&&(((x5.From:Int)==x14.From)&&(((x5.To:Int)==x14.To)&&true))) then(bi (some false) fun v=>some (.out v)) else(some (.go ()))) 0 s1 ()) fun q=>goI q fun a8=>some true)
def Lid(x:Int):Option Int:=
 bi (bif decide ((x:Int)≥4294967296) then(some (shrV .u64 x 32,32)) else(some (x,0))) fun q1=>bi (bif decide ((q1.1:Int)≥65536) then(some (shrV .u64 q1.1 16,wi (q1.2+16))) else(some (q1.1,q1.2))) fun q5=>bi (bif decide ((q5.1:Int)≥256) then(some (shrV .u64 q5.1 8,wi (q5.2+8))) else(some (q5.1,q5.2))) fun q9=>bi (getZ ([0,1,2,2,3,3,3,3,4,4,4,4,4,4,4,4,5,5,5,5,5,5,5,5,5,5,5,5,5,5,5,5,6,6,6,6,6,6,6,6,6,6,6,6,6,6,6,6,6,6,6,6,6,6,6,6,6,6,6,6,6,6,6,6,7,7,7,7,7,7,7,7,7,7,7,7,7,7,7,7,7,7,7,7,7,7,7,7,7,7,7,7,7,7,7,7,7,7,7,7,7,7,7,7,7,7,7,7,7,7,7,7,7,7,7,7,7,7,7,7,7,7,7,7,7,7,7,7,8,8,8,8,8,8,8,8,8,8,8,8,8,8,8,8,8,8,8,8,8,8,8,8,8,8,8,8,8,8,8,8,8,8,8,8,8,8,8,8,8,8,8,8,8,8,8,8,8,8,8,8,8,8,8,8,8,8,8,8,8,8,8,8,8,8,8,8,8,8,8,8,8,8,8,8,8,8,8,8,8,8,8,8,8,8,8,8,8,8,8,8,8,8,8,8,8,8,8,8,8,8,8,8,8,8,8,8,8,8,8,8,8,8,8,8,8,8,8,8,8,8,8,8,8,8,8,8]:Str) (IntKind.u8.wrap (q9.1))) fun c13=>some (wi (q9.2+(wi ((c13.toNat:Int)))))
def Lie(x:Int):Option Int:=
 bi (Lid x) fun y1=>some y1
def Lif(a:Ldl)(b:Ldl):Option Int:=
 bi (Kqv a.Node b.Node) fun y1=>some y1
def Lig(k:Nat)(data:List Ldl)(a:Int)(b:Int):Option (List Ldl):=
 bi (loopM (σ:=(List Ldl)×Int) (ρ:=List Ldl) (fun s2=>bif decide ((s2.2:Int)<b) then(bi (loopM (σ:=(List Ldl)×Int) (ρ:=List Ldl) (fun s13=>bi (bif decide ((s13.2:Int)>a) then(bi (getZ s13.1 s13.2) fun x25=>bi (getZ s13.1 (wi (s13.2 - 1))) fun x28=>bi (Lif x25 x28) fun y31=>some (decide ((y31:Int)<0))) else(some false)) fun q22=>bif q22 then(bi (getZ s13.1 (wi (s13.2 - 1))) fun x35=>bi (getZ s13.1 s13.2) fun x38=>bi (getZ s13.1 s13.2) fun x41=>bi (getZ s13.1 (wi (s13.2 - 1))) fun x44=>bi (getZ (s13.1.set s13.2.toNat x35) (((wi (s13.2 - 1)).toNat:Nat):Int)) fun x47=>some (.go ((s13.1.set s13.2.toNat x35).set ((wi (s13.2 - 1)).toNat) x38,wi (s13.2 - 1)))) else(some (.out s13.1))) k (s2.1,s2.2)) fun q15=>some (.go (q15,wi (s2.2+1)))) else(some (.out s2.1))) k (data,wi (a+1))) fun q4=>some q4
def Lih(k:Nat)(data:List Ldl)(a:Int)(b:Int)(limit:Int):Option (List Ldl):=
 bi (loopM (σ:=Unit) (ρ:=List Ldl) (fun s2=>bif decide ((wi (b - a):Int)≤12) then(bi (Lig k data a b) fun y12=>bi (some y12) fun v=>some (.out v)) else(bif (limit:Int)==0 then none else none)) k ()) fun v=>some v
def Lii(k:Nat)(x:List Ldl):Option (List Ldl):=
 bi (Lie (IntKind.u64.wrap ((x.length:Int)))) fun y1=>bi (Lih k x 0 (x.length:Int) y1) fun y3=>some y3
def Lij(k:Nat)(d:Ldg)(l:List Ldh)(v_at:Int)(al:BagT):Option ((List Ldl)×BagT):=
 bi (Lhv d l v_at al) fun y1=>rangeD (σ:=List Ldl) (fun x10 s9=>gd (Nat.blt 0 x10.2) (bi (hGet y1.2.2.2.2.2.1 x10.2) fun m25=>bi (apd s9 [m25]) fun y27=>some y27)) y1.1.nodes ([]:List Ldl) fun s9=>bi (Lii k s9) fun y17=>gd (decide (y17.length=s9.length)) (some (y17,y1.2.2))
def Lik(k:Nat)(d:Ldg)(l:List Ldh)(v_public:Str)(v_at:Int)(al:BagT):Option (Str×Bool×BagT):=
 bi (Lij k d l v_at al) fun y1=>bi (rangeM (σ:=Unit) (ρ:=Str×Bool×BagT) (fun i3 x5 s4=>bif (x5.Public:Str)==v_public then(bi (some (x5.Node,true,y1.2)) fun v=>some (.out v)) else(some (.go ()))) 0 y1.1 ()) fun q=>goI q fun a8=>some ([],false,y1.2)
def Lil(u:Str)(x:Str)(x2:Ldg)(x3:Ldl):Option Bool:=
 bi (bif !((u:Str)==x) then(bi (Lhs x2 u x3) fun y4=>some y4) else(some false)) fun q1=>some q1
def Lim(s:List Str)(f:Str)(f2:Ldg)(f3:Ldl):Option Int:=
 bi (rangeM (σ:=Unit) (ρ:=Int) (fun i1 x3 s2=>bi (Lil x3 f f2 f3) fun y12=>bif y12 then(bi (some (i1:Int)) fun v=>some (.out v)) else(some (.go ()))) 0 s ()) fun q=>goI q fun a6=>some (-1)
def Lin(s:List Str)(f:Str)(f2:Ldg)(f3:Ldl):Option Bool:=
 bi (Lim s f f2 f3) fun y1=>some (decide ((y1:Int)≥0))
def Lio(k:Nat)(d:Ldg)(l:List Ldh)(user:Str)(v_at:Int)(alone:Bool)(al:BagT):Option ((List Str)×BagT):=
 bi (Lij k d l v_at al) fun y1=>bi (rangeF (σ:=List Str) (fun i3 x5 s4=>bi (Lin d.Users user d x5) fun y14=>bi (Lhs d user x5) fun y16=>bif (y16&&(!(alone&&y14))) then(bi (apd s4 [x5.Node]) fun y19=>some y19) else(some s4)) 0 y1.1 ([]:List Str)) fun q6=>some (q6,y1.2)
def Lip(s1:List Str)(s2:List Str):Option Bool:=
 bif ((s1.length:Int):Int) != (s2.length:Int) then(some false) else(bi (rangeM (σ:=Unit) (ρ:=Bool) (fun i3 x5 s4=>bi (getZ s2 (i3:Int)) fun x14=>bif !((x5:Str)==x14) then(bi (some false) fun v=>some (.out v)) else(some (.go ()))) 0 s1 ()) fun q=>goI q fun a8=>some true)
def Liq(k:Nat)(d:Ldg)(user:Str)(tag:Str):Option (Bool×Int):=
 bi (Lfk k d) fun y1=>bif (y1:Int) != 0 then(some (false,y1)) else(bi (Lgj d user tag) fun y5=>bi (Ler d.Users user) fun y7=>bif ((!y7)||(!y5.2)) then(some (false,8)) else(some (y5.1,0)))
def Lir(k:Nat):Option Bool:=
 bi (Liq k (⟨[[97]],[(⟨[116],[[97]]⟩:Ldf)],1,false⟩:Ldg) [97] [116]) fun y1=>some (((y1.2:Int)==0)&&y1.1)
def Lis(k:Nat)(l:List Int)(al:BagT):Option (Bool×BagT):=
 bi (Ldv (⟨l,0⟩:Lde) 0 14) fun y1=>bi (Lff k y1.2 y1.1) fun y3=>bi (Lfg y3.2) fun y5=>bi (Ldz y5.2 [[110,97],[110,97],[110,98],[]]) fun y7=>bi (Ldz y7.2 [[48,97],[48,98],[49,97],[122,122],[]]) fun y9=>bi (Leb y9.2) fun y11=>bi (Lgw k y3.1.d y3.1.l y7.1 al) fun y13=>bi (Lgx k y3.1.d y3.1.l y9.1 y5.1 y13.2.2) fun y15=>bi (Lhe k y3.1.d y3.1.l y11.1 y5.1 y15.2.2.2) fun y17=>bi (Lhf k y3.1.d y3.1.l y11.1 y5.1 y17.2.2) fun y19=>bi (Lhg y7.1) fun y21=>bi (Lfe [y3.1.fault,y21]) fun y23=>bi (Lex y9.1) fun y25=>bi (Lhh (!y25) 5) fun y27=>bi (Lhi y5.1) fun y29=>bi (Lfe [y3.1.fault,y27,y29]) fun y31=>bi (Ler y3.1.d.Users y11.1) fun y33=>bi (Lhh (!y33) 8) fun y35=>bi (Lhi y5.1) fun y37=>bi (Lfe [y3.1.fault,y35,y37]) fun y39=>bif (((((y13.2.1:Int) != y23)||((y15.2.2.1:Int) != y31))||((y17.2.1:Int) != y39))||((y19.2.1:Int) != y39)) then(some (false,y19.2.2)) else(bi (bif (y23:Int)==0 then(bi (Lia k y3.1.d y3.1.l y7.1 y19.2.2) fun y46=>bi (Lic y13.1 y46.1) fun y48=>some (y46.2,!y48)) else(some (y19.2.2,false))) fun q43=>bif q43.2 then(some (false,q43.1)) else(bi (bif (y31:Int)==0 then(bi (Lik k y3.1.d y3.1.l y9.1 y5.1 q43.1) fun y57=>bif ((!((y15.1:Str)==y57.1))||(!((y15.2.1:Bool)==y57.2.1))) then(bi (some (false,y57.2.2)) fun v=>some (.inr v)) else(some (.inl y57.2.2))) else(some (.inl q43.1)):Option (BagT ⊕ (Bool×BagT))) fun q=>orI q fun a55=>bi (bif (y39:Int) != 0 then(some (a55,true)) else(bi (Lio k y3.1.d y3.1.l y11.1 y5.1 false a55) fun y68=>bi (Lip y17.1 y68.1) fun y70=>bi (bif y70 then(bi (Lio k y3.1.d y3.1.l y11.1 y5.1 true y68.2) fun y75=>bi (Lip y19.1 y75.1) fun y77=>some (y75.2,y77)) else(some (y68.2,false))) fun q72=>some (q72.1,q72.2))) fun q64=>bi (bif q64.2 then(bi (Lir k) fun y83=>some y83) else(some false)) fun q80=>some (q80,q64.1)))
def Liu(p:Ldp)(v_at:Int):Option Int:=
 bif (p.revoked||(decide ((v_at:Int)≥p.Join.Until))) then(some 11) else(bif decide ((p.used:Int)≥p.Join.Left) then(some 12) else(some 0))
end
end Go.Gk
