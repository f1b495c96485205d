import Derived.Test.YtjmlnnanfkiakaaGreatDoorMStr3
set_option linter.unusedVariables false
namespace Go.Gk
noncomputable section
structure Kay where
 L:List Int
 v_at:Int
 deriving DecidableEq
structure Kaz where
 Tag:Str
 Users:List Str
 deriving DecidableEq
structure Kba where
 Users:List Str
 Owners:List Kaz
 Life:Int
 Approve:Bool
 deriving DecidableEq
structure Kbb where
 At:Int
 Server:Str
 No:Int
 Kind:Int
 By:Str
 Node:Str
 Join:Str
 Public:Str
 Name:Str
 Tags:List Str
 Until:Int
 Uses:Int
 Ready:Bool
 deriving DecidableEq
structure Kbc where
 d:Kba
 l:List Kbb
 fault:Int
 deriving DecidableEq
structure Kbd where
 server:Str
 no:Int
 deriving DecidableEq
structure Kbe where
 Node:Str
 User:Str
 Name:Str
 Public:Str
 Tags:List Str
 Joined:Int
 Expires:Int
 Approved:Bool
 deriving DecidableEq
structure Kbf where
 v_at:Int
 is:Kbe
 gone:Bool
 key:Bool
 deriving DecidableEq
structure Kbg where
 d:Kba
 users:List (Str×Bool)
 passes:List (Str×Nat)
 there:List (Str×Kbe)
 story:List (Str×(Tl Kbf))
 deriving DecidableEq
structure Kbh where
 Step:Int
 Why:Int
 deriving DecidableEq
structure Kbi where
 Key:Str
 By:Str
 Tags:List Str
 Until:Int
 Left:Int
 Ready:Bool
 deriving DecidableEq
structure Kbj where
 Join:Kbi
 revoked:Bool
 used:Int
 deriving DecidableEq
structure Kbk where
 d:Kba
 keys:List (Str×Nat)
 nodes:List (Str×Nat)
 ever:List (Str×Bool)
 History:List (Str×Vl)
 deriving DecidableEq
structure Kbl where
 Join:Kbi
 revoked:Bool
 used:Int
 deriving DecidableEq
structure Kbm where
 Public:Str
 From:Int
 To:Int
 deriving DecidableEq
abbrev BagT:=List Bool×List (Nat×Kbj)×List (Nat×(List Kbm))×List (Nat×Kbe)×List (Nat×Kbl)×List (Nat×Str)
def Kbn (x:Int) (n:Int):Option Int:=
 bif decide ((n:Int)<1) then (some 0) else (bi (remZ x n) fun y3=>bi (bif decide ((y3:Int)<0) then (some (wi (y3+n))) else (some y3)) fun q5=>some q5)
def Kbo (s:Kay) (n:Int):Option (Int×Kay):=
 bif ((s.L.length:Int):Int)==0 then (bi (Kbn (wi ((wi (s.v_at+1)) * 7919)) n) fun y2=>some (y2,(⟨s.L,wi (s.v_at+1)⟩:Kay))) else (bi (remZ (wi ((wi (s.v_at+1)) - 1)) (s.L.length:Int)) fun y5=>bi (divZ .i64 (wi ((wi (s.v_at+1)) - 1)) (s.L.length:Int)) fun y7=>bi (getZ s.L y5) fun x9=>bi (Kbn x9 1073741824) fun y11=>bi (Kbn (wi (y11+(wi (y7 * (wi (7919+y5)))))) n) fun y13=>some (y13,(⟨s.L,wi (s.v_at+1)⟩:Kay)))
def Kbp (s:Kay) (low:Int) (high:Int):Option (Int×Kay):=
 bif decide ((high:Int)<low) then (some (low,s)) else (bi (Kbo s (wi ((wi (high - low))+1))) fun y3=>some (wi (low+y3.1),y3.2))
def Kbq (s:Kay) (l:List Int):Option (Int×Kay):=
 bi (Kbo s (l.length:Int)) fun y1=>bi (getZ l y1.1) fun x3=>some (x3,y1.2)
def Kbr (s:Kay) (n:Int):Option (Bool×Kay):=
 bi (Kbo s n) fun y1=>some ((y1.1:Int)==0,y1.2)
def Kbs (s:Kay):Option (Kba×Kay):=
 bi (Kbo s 3) fun y1=>bi (getZ [[[97,110,110],[98,111,98]],[[98,111,98]],[]] y1.1) fun x3=>bi (Kbo y1.2 2) fun y5=>bi (getZ [[[97,110,110]],[[97,110,110],[99,105,100]]] y5.1) fun x7=>bi (Kbq y5.2 [20,60,100,1000]) fun y9=>bi (Kbr y9.2 3) fun y11=>some ((⟨[[97,110,110],[98,111,98],[99,105,100]],[(⟨[100,98],x3⟩:Kaz),(⟨[119,101,98],x7⟩:Kaz)],y9.1,y11.1⟩:Kba),y11.2)
def Kbt (s:Kay) (l:List Str):Option (Str×Kay):=
 bi (Kbo s (l.length:Int)) fun y1=>bi (getZ l y1.1) fun x3=>some (x3,y1.2)
def Kbu (s:Kay):Option (Kba×Kay):=
 bi (Kbs s) fun y1=>bi (Kbr y1.2 15) fun y3=>bi (bif y3.1 then (bi (Kbo y3.2 4) fun y8=>bif (y8.1:Int)==0 then (bi (Kbt y8.2 [[],[97,110,110],[65]]) fun y11=>bi (apd y1.1.Users [y11.1]) fun y13=>some (y11.2,y13,y1.1.Owners,y1.1.Life)) else (bif (y8.1:Int)==1 then (bi (Kbt y8.2 [[],[100,98],[122,122]]) fun y17=>bi (Kbt y17.2 [[97,110,110],[110,111,110,101]]) fun y19=>bi (apd y1.1.Owners [(⟨y17.1,[y19.1]⟩:Kaz)]) fun y21=>some (y19.2,y1.1.Users,y21,y1.1.Life)) else (bif (y8.1:Int)==2 then (bi (Kbt y8.2 [[97,110,110],[98,111,98]]) fun y25=>bi (getZ y1.1.Owners 0) fun x27=>some (y25.2,y1.1.Users,y1.1.Owners.set ((0:Int).toNat) (⟨x27.Tag,[[98,111,98],y25.1]⟩:Kaz),y1.1.Life)) else (bi (Kbq y8.2 [0,345686400,345686401]) fun y31=>some (y31.2,y1.1.Users,y1.1.Owners,y31.1))))) else (some (y3.2,y1.1.Users,y1.1.Owners,y1.1.Life))) fun q5=>some ((⟨q5.2.1,q5.2.2.1,q5.2.2.2,y1.1.Approve⟩:Kba),q5.1)
def Kbv (s:Kay):Option (Str×Kay):=
 bi (Kbt s [[97,110,110],[97,110,110],[97,110,110],[98,111,98],[99,105,100],[122,101,100]]) fun y1=>some (y1.1,y1.2)
def Kbw (s:Kay):Option ((List Str)×Kay):=
 bi (Kbo s 6) fun y1=>bi (getZ [[],[[119,101,98]],[[119,101,98]],[[100,98]],[[100,98],[119,101,98]],[[110,111,110,101]]] y1.1) fun x3=>some (x3,y1.2)
def Kbx (s:Kay) (v_at:Int):Option (Kbb×Kay):=
 bi (Kbt s [[115,49],[115,49],[115,50]]) fun y1=>bi (Kbq y1.2 [1,2,3,3,3,3,3,4,5,5,6,7,7,8,9]) fun y3=>bi (Kbv y3.2) fun y5=>bi (Kbt y5.2 [[110,97],[110,97],[110,98],[110,98],[110,99],[110,100]]) fun y7=>bi (Kbt y7.2 [[107,49],[107,49],[107,50]]) fun y9=>bi (Kbt y9.2 [[48,97],[48,98],[48,99],[48,100],[48,101],[49,97],[49,98]]) fun y11=>bi (bif (y3.1:Int)==1 then (bi (Kbw y11.2) fun y16=>bi (Kbq y16.2 [0,5,50,200]) fun y18=>bi (Kbq y18.2 [0,1,2,1000,1001]) fun y20=>bi (Kbr y20.2 2) fun y22=>some (y22.2,(⟨v_at,y1.1,0,y3.1,y5.1,[],y9.1,[],[],y16.1,wi (v_at+y18.1),y20.1,y22.1⟩:Kbb))) else (bif (y3.1:Int)==2 then (some (y11.2,(⟨v_at,y1.1,0,y3.1,y5.1,[],y9.1,[],[],[],0,0,false⟩:Kbb))) else (bif (y3.1:Int)==3 then (bi (Kbt y11.2 [y7.1,[98,111,120],[98,111,120],[119,101,98]]) fun y28=>bi (Kbr y28.2 4) fun y30=>bif y30.1 then (bi (Kbr y30.2 8) fun y33=>bif !y33.1 then (some (y33.2,(⟨v_at,y1.1,0,y3.1,[],y7.1,y9.1,y11.1,y28.1,[],0,0,false⟩:Kbb))) else (some (y33.2,(⟨v_at,y1.1,0,y3.1,y5.1,y7.1,y9.1,y11.1,y28.1,[],0,0,false⟩:Kbb)))) else (some (y30.2,(⟨v_at,y1.1,0,y3.1,y5.1,y7.1,[],y11.1,y28.1,[],0,0,false⟩:Kbb)))) else (bif (y3.1:Int)==5 then (some (y11.2,(⟨v_at,y1.1,0,y3.1,y5.1,y7.1,[],y11.1,[],[],0,0,false⟩:Kbb))) else (bif (y3.1:Int)==6 then (bi (Kbt y11.2 [[98,111,120],[119,101,98],[109,97,99]]) fun y42=>some (y42.2,(⟨v_at,y1.1,0,y3.1,y5.1,y7.1,[],[],y42.1,[],0,0,false⟩:Kbb))) else (bif (y3.1:Int)==7 then (bi (Kbw y11.2) fun y46=>some (y46.2,(⟨v_at,y1.1,0,y3.1,y5.1,y7.1,[],[],[],y46.1,0,0,false⟩:Kbb))) else (some (y11.2,(⟨v_at,y1.1,0,y3.1,y5.1,y7.1,[],[],[],[],0,0,false⟩:Kbb))))))))) fun q13=>some (q13.2,q13.1)
def Kby (x:Int):Option Bool:=
 some ((x:Int) != x)
def Kbz (x:Int) (y:Int):Option Int:=
 bi (Kby x) fun y1=>bi (Kby y) fun y3=>bif y1 then (bif y3 then (some 0) else (some (-1))) else (bif y3 then (some 1) else (bif decide ((x:Int)<y) then (some (-1)) else (bif decide ((x:Int)>y) then (some 1) else (some 0))))
def Kca (vals:List Int):Option Int:=
 bi (rangeM (σ:=Unit) (ρ:=Int) (fun i1 x3 s2=>bif (x3:Int) != 0 then (bi (some x3) fun v=>some (.out v)) else (some (.go ()))) 0 vals ()) fun q=>goI q fun a6=>some 0
def Kcb (a:Kbb) (b:Kbb):Option Int:=
 bi (Kbz a.At b.At) fun y1=>bi (Kal a.Server b.Server) fun y3=>bi (Kbz a.No b.No) fun y5=>bi (Kca [y1,y3,y5]) fun y7=>some y7
def Kcc (k:Nat) (data:List Kbb) (a:Int) (b:Int):Option (List Kbb):=
 bi (loopM (σ:=(List Kbb)×Int) (ρ:=List Kbb) (fun s2=>bif decide ((s2.2:Int)<b) then (bi (loopM (σ:=(List Kbb)×Int) (ρ:=List Kbb) (fun s13=>bi (bif decide ((s13.2:Int)>a) then (bi (getZ s13.1 s13.2) fun x25=>bi (getZ s13.1 (wi (s13.2 - 1))) fun x28=>bi (Kcb x25 x28) fun y31=>some (decide ((y31:Int)<0))) else (some false)) fun q22=>bif q22 then (bi (getZ s13.1 (wi (s13.2 - 1))) fun x35=>bi (getZ s13.1 s13.2) fun x38=>bi (getZ s13.1 s13.2) fun x41=>bi (getZ s13.1 (wi (s13.2 - 1))) fun x44=>bi (getZ (s13.1.set s13.2.toNat x35) (((wi (s13.2 - 1)).toNat:Nat):Int)) fun x47=>some (.go ((s13.1.set s13.2.toNat x35).set ((wi (s13.2 - 1)).toNat) x38,wi (s13.2 - 1)))) else (some (.out s13.1))) k (s2.1,s2.2)) fun q15=>some (.go (q15,wi (s2.2+1)))) else (some (.out s2.1))) k (data,wi (a+1))) fun q4=>some q4
def Kcd (k:Nat) (data:List Kbb) (n:Int):Option (List Kbb):=
 bi (loopM (σ:=(List Kbb)×Int×Int) (ρ:=(List Kbb)×Int) (fun s2=>bif decide ((s2.2.2:Int)≤n) then (bi (Kcc k s2.1 s2.2.1 s2.2.2) fun y12=>gd (decide (y12.length=s2.1.length)) (some (.go (y12,s2.2.2,wi (s2.2.2+20))))) else (some (.out (s2.1,s2.2.1)))) k (data,0,20)) fun q4=>bi (Kcc k q4.1 q4.2 n) fun y17=>gd (decide (y17.length=q4.1.length)) (bi (loopM (σ:=Int) (ρ:=Unit) (fun s22=>bif decide ((s22:Int)<n) then (bi (loopM (σ:=Unit) (ρ:=Unit) (fun s33=>bif decide ((wi (2 * s22):Int)≤n) then none else (some (.out ()))) k ()) fun q35=>bif decide ((wi (0+s22):Int)<n) then none else (some (.go (wi (s22 * 2))))) else (some (.out ()))) k 20) fun q24=>some y17)
def Kce (k:Nat) (x:List Kbb):Option (List Kbb):=
 bi (Kcd k x (x.length:Int)) fun y1=>some y1
def Kcf (k:Nat) (s:Kay) (many:Int):Option ((List Kbb)×Kay):=
 bi (Kbo s 5) fun y1=>bi (gd (decide (many≤9223372036854775807)) (rangeG (σ:=Kay×(List Kbb)×(List (Str×Int))×Int) (fun i3 s4=>bi (Kbx s4.1 s4.2.2.2) fun y15=>bi (apd s4.2.1 [(⟨y15.1.At,y15.1.Server,((mGet (mSet s4.2.2.1 y15.1.Server (wi (((mGet s4.2.2.1 y15.1.Server).getD 0)+1))) y15.1.Server).getD 0),y15.1.Kind,y15.1.By,y15.1.Node,y15.1.Join,y15.1.Public,y15.1.Name,y15.1.Tags,y15.1.Until,y15.1.Uses,y15.1.Ready⟩:Kbb)]) fun y17=>bi (Kbq y15.2 [0,1,1,5,20,60]) fun y19=>some (y19.2,y17,(mSet s4.2.2.1 y15.1.Server (wi (((mGet s4.2.2.1 y15.1.Server).getD 0)+1))),wi (s4.2.2.2+y19.1))) many (y1.2,([]:List Kbb),([]:List (Str×Int)),y1.1))) fun q6=>bi (Kce k q6.2.1) fun y21=>gd (decide (y21.length=q6.2.1.length)) (bi (bif decide (((y21.length:Int):Int)>0) then (bi (Kbr q6.1 15) fun y28=>some (y28.2,y28.1)) else (some (q6.1,false))) fun q25=>bi (bif q25.2 then (bi (Kbo q25.1 (y21.length:Int)) fun y34=>bi (getZ y21 y34.1) fun x36=>bi (Kbo y34.2 6) fun y39=>bif (y39.1:Int)==0 then (bi (Kbq y39.2 [-1,0,345686400]) fun y42=>some (y42.2,y21.set y34.1.toNat (⟨y42.1,x36.Server,x36.No,x36.Kind,x36.By,x36.Node,x36.Join,x36.Public,x36.Name,x36.Tags,x36.Until,x36.Uses,x36.Ready⟩:Kbb))) else (bif (y39.1:Int)==1 then (bi (Kbt y39.2 [[],[115,49]]) fun y46=>bi (Kbq y46.2 [0,1,1000001]) fun y48=>some (y48.2,(y21.set y34.1.toNat (⟨x36.At,y46.1,x36.No,x36.Kind,x36.By,x36.Node,x36.Join,x36.Public,x36.Name,x36.Tags,x36.Until,x36.Uses,x36.Ready⟩:Kbb)).set y34.1.toNat (⟨(⟨x36.At,y46.1,x36.No,x36.Kind,x36.By,x36.Node,x36.Join,x36.Public,x36.Name,x36.Tags,x36.Until,x36.Uses,x36.Ready⟩:Kbb).At,(⟨x36.At,y46.1,x36.No,x36.Kind,x36.By,x36.Node,x36.Join,x36.Public,x36.Name,x36.Tags,x36.Until,x36.Uses,x36.Ready⟩:Kbb).Server,y48.1,(⟨x36.At,y46.1,x36.No,x36.Kind,x36.By,x36.Node,x36.Join,x36.Public,x36.Name,x36.Tags,x36.Until,x36.Uses,x36.Ready⟩:Kbb).Kind,(⟨x36.At,y46.1,x36.No,x36.Kind,x36.By,x36.Node,x36.Join,x36.Public,x36.Name,x36.Tags,x36.Until,x36.Uses,x36.Ready⟩:Kbb).By,(⟨x36.At,y46.1,x36.No,x36.Kind,x36.By,x36.Node,x36.Join,x36.Public,x36.Name,x36.Tags,x36.Until,x36.Uses,x36.Ready⟩:Kbb).Node,(⟨x36.At,y46.1,x36.No,x36.Kind,x36.By,x36.Node,x36.Join,x36.Public,x36.Name,x36.Tags,x36.Until,x36.Uses,x36.Ready⟩:Kbb).Join,(⟨x36.At,y46.1,x36.No,x36.Kind,x36.By,x36.Node,x36.Join,x36.Public,x36.Name,x36.Tags,x36.Until,x36.Uses,x36.Ready⟩:Kbb).Public,(⟨x36.At,y46.1,x36.No,x36.Kind,x36.By,x36.Node,x36.Join,x36.Public,x36.Name,x36.Tags,x36.Until,x36.Uses,x36.Ready⟩:Kbb).Name,(⟨x36.At,y46.1,x36.No,x36.Kind,x36.By,x36.Node,x36.Join,x36.Public,x36.Name,x36.Tags,x36.Until,x36.Uses,x36.Ready⟩:Kbb).Tags,(⟨x36.At,y46.1,x36.No,x36.Kind,x36.By,x36.Node,x36.Join,x36.Public,x36.Name,x36.Tags,x36.Until,x36.Uses,x36.Ready⟩:Kbb).Until,(⟨x36.At,y46.1,x36.No,x36.Kind,x36.By,x36.Node,x36.Join,x36.Public,x36.Name,x36.Tags,x36.Until,x36.Uses,x36.Ready⟩:Kbb).Uses,(⟨x36.At,y46.1,x36.No,x36.Kind,x36.By,x36.Node,x36.Join,x36.Public,x36.Name,x36.Tags,x36.Until,x36.Uses,x36.Ready⟩:Kbb).Ready⟩:Kbb))) else (bif (y39.1:Int)==2 then (bi (Kbq y39.2 [0,10,3]) fun y53=>some (y53.2,y21.set y34.1.toNat (⟨x36.At,x36.Server,x36.No,y53.1,x36.By,x36.Node,x36.Join,x36.Public,x36.Name,x36.Tags,x36.Until,x36.Uses,x36.Ready⟩:Kbb))) else (bif (y39.1:Int)==3 then (bi (Kbt y39.2 [[],[65],[97,110,110]]) fun y57=>bi (Kbt y57.2 [[],[110,97]]) fun y59=>some (y59.2,(y21.set y34.1.toNat (⟨x36.At,x36.Server,x36.No,x36.Kind,y57.1,x36.Node,x36.Join,x36.Public,x36.Name,x36.Tags,x36.Until,x36.Uses,x36.Ready⟩:Kbb)).set y34.1.toNat (⟨(⟨x36.At,x36.Server,x36.No,x36.Kind,y57.1,x36.Node,x36.Join,x36.Public,x36.Name,x36.Tags,x36.Until,x36.Uses,x36.Ready⟩:Kbb).At,(⟨x36.At,x36.Server,x36.No,x36.Kind,y57.1,x36.Node,x36.Join,x36.Public,x36.Name,x36.Tags,x36.Until,x36.Uses,x36.Ready⟩:Kbb).Server,(⟨x36.At,x36.Server,x36.No,x36.Kind,y57.1,x36.Node,x36.Join,x36.Public,x36.Name,x36.Tags,x36.Until,x36.Uses,x36.Ready⟩:Kbb).No,(⟨x36.At,x36.Server,x36.No,x36.Kind,y57.1,x36.Node,x36.Join,x36.Public,x36.Name,x36.Tags,x36.Until,x36.Uses,x36.Ready⟩:Kbb).Kind,(⟨x36.At,x36.Server,x36.No,x36.Kind,y57.1,x36.Node,x36.Join,x36.Public,x36.Name,x36.Tags,x36.Until,x36.Uses,x36.Ready⟩:Kbb).By,y59.1,(⟨x36.At,x36.Server,x36.No,x36.Kind,y57.1,x36.Node,x36.Join,x36.Public,x36.Name,x36.Tags,x36.Until,x36.Uses,x36.Ready⟩:Kbb).Join,(⟨x36.At,x36.Server,x36.No,x36.Kind,y57.1,x36.Node,x36.Join,x36.Public,x36.Name,x36.Tags,x36.Until,x36.Uses,x36.Ready⟩:Kbb).Public,(⟨x36.At,x36.Server,x36.No,x36.Kind,y57.1,x36.Node,x36.Join,x36.Public,x36.Name,x36.Tags,x36.Until,x36.Uses,x36.Ready⟩:Kbb).Name,(⟨x36.At,x36.Server,x36.No,x36.Kind,y57.1,x36.Node,x36.Join,x36.Public,x36.Name,x36.Tags,x36.Until,x36.Uses,x36.Ready⟩:Kbb).Tags,(⟨x36.At,x36.Server,x36.No,x36.Kind,y57.1,x36.Node,x36.Join,x36.Public,x36.Name,x36.Tags,x36.Until,x36.Uses,x36.Ready⟩:Kbb).Until,(⟨x36.At,x36.Server,x36.No,x36.Kind,y57.1,x36.Node,x36.Join,x36.Public,x36.Name,x36.Tags,x36.Until,x36.Uses,x36.Ready⟩:Kbb).Uses,(⟨x36.At,x36.Server,x36.No,x36.Kind,y57.1,x36.Node,x36.Join,x36.Public,x36.Name,x36.Tags,x36.Until,x36.Uses,x36.Ready⟩:Kbb).Ready⟩:Kbb))) else (bif (y39.1:Int)==4 then (bi (Kag [97] 21) fun y64=>bi (Kbt y39.2 [[],[120,121,122],[48,65],y64]) fun y66=>bi (Kbq y66.2 [0,-1,1000000000]) fun y68=>some (y68.2,(y21.set y34.1.toNat (⟨x36.At,x36.Server,x36.No,x36.Kind,x36.By,x36.Node,x36.Join,y66.1,x36.Name,x36.Tags,x36.Until,x36.Uses,x36.Ready⟩:Kbb)).set y34.1.toNat (⟨(⟨x36.At,x36.Server,x36.No,x36.Kind,x36.By,x36.Node,x36.Join,y66.1,x36.Name,x36.Tags,x36.Until,x36.Uses,x36.Ready⟩:Kbb).At,(⟨x36.At,x36.Server,x36.No,x36.Kind,x36.By,x36.Node,x36.Join,y66.1,x36.Name,x36.Tags,x36.Until,x36.Uses,x36.Ready⟩:Kbb).Server,(⟨x36.At,x36.Server,x36.No,x36.Kind,x36.By,x36.Node,x36.Join,y66.1,x36.Name,x36.Tags,x36.Until,x36.Uses,x36.Ready⟩:Kbb).No,(⟨x36.At,x36.Server,x36.No,x36.Kind,x36.By,x36.Node,x36.Join,y66.1,x36.Name,x36.Tags,x36.Until,x36.Uses,x36.Ready⟩:Kbb).Kind,(⟨x36.At,x36.Server,x36.No,x36.Kind,x36.By,x36.Node,x36.Join,y66.1,x36.Name,x36.Tags,x36.Until,x36.Uses,x36.Ready⟩:Kbb).By,(⟨x36.At,x36.Server,x36.No,x36.Kind,x36.By,x36.Node,x36.Join,y66.1,x36.Name,x36.Tags,x36.Until,x36.Uses,x36.Ready⟩:Kbb).Node,(⟨x36.At,x36.Server,x36.No,x36.Kind,x36.By,x36.Node,x36.Join,y66.1,x36.Name,x36.Tags,x36.Until,x36.Uses,x36.Ready⟩:Kbb).Join,(⟨x36.At,x36.Server,x36.No,x36.Kind,x36.By,x36.Node,x36.Join,y66.1,x36.Name,x36.Tags,x36.Until,x36.Uses,x36.Ready⟩:Kbb).Public,(⟨x36.At,x36.Server,x36.No,x36.Kind,x36.By,x36.Node,x36.Join,y66.1,x36.Name,x36.Tags,x36.Until,x36.Uses,x36.Ready⟩:Kbb).Name,(⟨x36.At,x36.Server,x36.No,x36.Kind,x36.By,x36.Node,x36.Join,y66.1,x36.Name,x36.Tags,x36.Until,x36.Uses,x36.Ready⟩:Kbb).Tags,y68.1,(⟨x36.At,x36.Server,x36.No,x36.Kind,x36.By,x36.Node,x36.Join,y66.1,x36.Name,x36.Tags,x36.Until,x36.Uses,x36.Ready⟩:Kbb).Uses,(⟨x36.At,x36.Server,x36.No,x36.Kind,x36.By,x36.Node,x36.Join,y66.1,x36.Name,x36.Tags,x36.Until,x36.Uses,x36.Ready⟩:Kbb).Ready⟩:Kbb))) else (bi (Kbo y39.2 3) fun y72=>bi (getZ [[[119,101,98],[100,98]],[[]],[[97],[98]]] y72.1) fun x74=>some (y72.2,y21.set y34.1.toNat (⟨x36.At,x36.Server,x36.No,x36.Kind,x36.By,x36.Node,x36.Join,x36.Public,x36.Name,x74,x36.Until,x36.Uses,x36.Ready⟩:Kbb)))))))) else (some (q25.1,y21))) fun q31=>some (q31.2,q31.1))
def Kcg (n:Int) (low:Int) (high:Int):Option Bool:=
 some ((decide ((low:Int)≤n))&&(decide ((n:Int)≤high)))
def Kch (s:Str) (v_some:Str):Option Bool:=
 bi (Kae s v_some) fun y1=>some ((y1:Str)==[])
def Kci (s:Str):Option Bool:=
 bi (Kcg (s.length:Int) 1 40) fun y1=>bi (bif y1 then (bi (subZ s 0 1) fun z6=>bi (Kch z6 [97,98,99,100,101,102,103,104,105,106,107,108,109,110,111,112,113,114,115,116,117,118,119,120,121,122]) fun y8=>some y8) else (some false)) fun q3=>bi (bif q3 then (bi (Kch s [97,98,99,100,101,102,103,104,105,106,107,108,109,110,111,112,113,114,115,116,117,118,119,120,121,122,48,49,50,51,52,53,54,55,56,57,45,95]) fun y14=>some y14) else (some false)) fun q11=>some q11
def Kcj (l:List Str):Option Int:=
 bi (rangeM (σ:=Unit) (ρ:=Int) (fun i1 x3 s2=>bi (Kci x3) fun y12=>bif !y12 then (bi (some 5) fun v=>some (.out v)) else (bi (bif decide (((i1:Int):Int)>0) then (bi (getZ l (wi ((i1:Int) - 1))) fun x21=>some (Op.bytesLess x3 x21||(x3:Str)==x21)) else (some false)) fun q18=>bif q18 then (bi (some 7) fun v=>some (.out v)) else (some (.go ())))) 0 l ()) fun q=>goI q fun a6=>some 0
def Kck (s:List Str) (v:Str):Option Int:=
 bi (rangeM (σ:=Unit) (ρ:=Int) (fun i1 x3 s2=>bif (v:Str)==x3 then (bi (some (i1:Int)) fun v=>some (.out v)) else (some (.go ()))) 0 s ()) fun q=>goI q fun a6=>some (-1)
def Kcl (s:List Str) (v:Str):Option Bool:=
 bi (Kck s v) fun y1=>some (decide ((y1:Int)≥0))
def Kcm (n:Int) (low:Int) (high:Int):Option Bool:=
 some ((decide ((low:Int)≤n))&&(decide ((n:Int)≤high)))
def Kcn (d:Kba):Option Int:=
 bif decide (((d.Users.length:Int):Int)>200) then (some 2) else (bi (Kcj d.Users) fun y3=>bif (y3:Int) != 0 then (some y3) else (bif decide (((d.Owners.length:Int):Int)>100) then (some 2) else (bi (rangeM (σ:=Unit) (ρ:=Int) (fun i9 x11 s10=>bi (Kci x11.Tag) fun y20=>bif !y20 then (bi (some 5) fun v=>some (.out v)) else (bi (bif decide (((i9:Int):Int)>0) then (bi (getZ d.Owners (wi ((i9:Int) - 1))) fun x29=>some (Op.bytesLess x11.Tag x29.Tag||(x11.Tag:Str)==x29.Tag)) else (some false)) fun q26=>bif q26 then (bi (some 7) fun v=>some (.out v)) else (bi (rangeM (σ:=Unit) (ρ:=LS Unit Int) (fun i36 x38 s37=>bi (Kcl d.Users x38) fun y47=>bif !y47 then (bi (bi (some 8) fun v=>some (.out v)) fun v=>some (.out v)) else (bi (bif decide (((i36:Int):Int)>0) then (bi (getZ x11.Users (wi ((i36:Int) - 1))) fun x58=>some (Op.bytesLess x38 x58||(x38:Str)==x58)) else (some false)) fun q55=>bif q55 then (bi (bi (some 7) fun v=>some (.out v)) fun v=>some (.out v)) else (some (.go ())))) 0 x11.Users ()) fun q=>goI q fun a41=>some (.go ())))) 0 d.Owners ()) fun q=>goI q fun a14=>bi (Kcm d.Life 1 345686400) fun y67=>bif !y67 then (some 1) else (some 0))))
def Kco (v_at:Int):Option Bool:=
 bi (Kcg v_at 0 345686399) fun y1=>some y1
def Kcp (kind:Int):Option Str:=
 bi (getZ [[],[98,106,116,117,115,114],[98,106],[66,110,74,112,109],[98,110],[98,110,112],[98,110,109],[98,110,116],[98,110],[98,110]] kind) fun x1=>some x1
def Kcq (s:Str):Option Int:=
 bi (Kci s) fun y1=>bif !y1 then (some 5) else (some 0)
def Kcr (s:Str):Option Bool:=
 bi (Kcm (s.length:Int) 1 20) fun y1=>bi (bif y1 then (bi (Kae s [48,49,50,51,52,53,54,55,56,57,97,98,99,100,101,102]) fun y6=>some ((y6:Str)==[])) else (some false)) fun q3=>some q3
def Kcs (s:Kbb) (c:Int):Option Int:=
 bi (bi (bif (c:Int)==98 then (some ((c:Int)==98)) else (bif (c:Int)==110 then (some ((c:Int)==110)) else (bif (c:Int)==106 then (some ((c:Int)==106)) else (some ((c:Int)==109))))) fun q4=>bif q4 then (bi (Kcq ((mGet (mSet (mSet (mSet (mSet ([]:List (Int×Str)) 98 s.By) 110 s.Node) 106 s.Join) 109 s.Name) c).getD [])) fun y13=>bi (some y13) fun v=>some (.inr v)) else (bi (bif (c:Int)==66 then (some ((c:Int)==66)) else (some ((c:Int)==74))) fun q18=>bif q18 then (bif !((((mGet (mSet (mSet ([]:List (Int×Str)) 66 s.By) 74 s.Join) c).getD []):Str)==[]) then (bi (Kcq ((mGet (mSet (mSet ([]:List (Int×Str)) 66 s.By) 74 s.Join) c).getD [])) fun y24=>bi (some y24) fun v=>some (.inr v)) else (some (.inl ()))) else (bif (c:Int)==112 then (bi (Kcr s.Public) fun y31=>bif !y31 then (bi (some 5) fun v=>some (.inr v)) else (some (.inl ()))) else (bif (c:Int)==116 then (bif decide (((s.Tags.length:Int):Int)>10) then (bi (some 2) fun v=>some (.inr v)) else (bi (Kcj s.Tags) fun y43=>bi (some y43) fun v=>some (.inr v))) else (bi (bif (c:Int)==117 then (some ((c:Int)==117)) else (some ((c:Int)==115))) fun q48=>bif q48 then (bi (Kcm ((mGet (mSet (mSet ([]:List (Int×Int)) 117 s.Until) 115 s.Uses) c).getD 0) 0 999999999) fun y53=>bif !y53 then (bi (some 1) fun v=>some (.inr v)) else (some (.inl ()))) else (some (.inl ())))))):Option (Unit ⊕ Int)) fun q=>orI q fun a3=>some 0
def Kct (s:Kbb):Option Int:=
 bi (Kco s.At) fun y1=>bif !y1 then (some 1) else (bi (Kci s.Server) fun y5=>bif !y5 then (some 5) else (bi (Kcm s.No 1 1000000) fun y9=>bif !y9 then (some 1) else (bi (Kcm s.Kind 1 9) fun y13=>bif !y13 then (some 4) else (bi (Kcp s.Kind) fun y17=>gd (asc y17) (bi (rangeM (σ:=Unit) (ρ:=Int) (fun sn23 x22 s21=>bi (Kcs s (x22.toNat:Int)) fun y63=>bif (y63:Int) != 0 then (bi (some y63) fun v=>some (.out v)) else (some (.go ()))) 0 y17 ()) fun q=>goI q fun s21=>bi (Kcp s.Kind) fun y30=>bi (Kap y30) fun y32=>bi (rangePM (σ:=Unit) (ρ:=Int) (fun x41 s40=>bi (bif !x41.2 then (bi (Kam y32 x41.1) fun y54=>some (decide ((y54:Int)<0))) else (some false)) fun q51=>bif q51 then (bi (some 3) fun v=>some (.out v)) else (some (.go ()))) (mSet (mSet (mSet (mSet (mSet (mSet (mSet (mSet (mSet ([]:List (Int×Bool)) 98 ((s.By:Str)==[])) 110 ((s.Node:Str)==[])) 106 ((s.Join:Str)==[])) 112 ((s.Public:Str)==[])) 109 ((s.Name:Str)==[])) 116 (((s.Tags.length:Int):Int)==0)) 117 ((s.Until:Int)==0)) 115 ((s.Uses:Int)==0)) 114 (!s.Ready)) ()) fun q=>goI q fun s40=>some 0)))))
def Kcu (x:Kbb) (x2:Kbb):Option Bool:=
 some (((x.Server:Str)==x2.Server)&&((x.No:Int)==x2.No))
def Kcv (s:List Kbb) (f:Kbb):Option Int:=
 bi (rangeM (σ:=Unit) (ρ:=Int) (fun i1 x3 s2=>bi (Kcu x3 f) fun y12=>bif y12 then (bi (some (i1:Int)) fun v=>some (.out v)) else (some (.go ()))) 0 s ()) fun q=>goI q fun a6=>some (-1)
def Kcw (s:List Kbb) (f:Kbb):Option Bool:=
 bi (Kcv s f) fun y1=>some (decide ((y1:Int)≥0))
def Kcx (l:List Kbb):Option Int:=
 bif decide (((l.length:Int):Int)>2000) then (some 2) else (bi (rangeM (σ:=Unit) (ρ:=Int) (fun i3 x5 s4=>bi (Kct x5) fun y14=>bif (y14:Int) != 0 then (bi (some y14) fun v=>some (.out v)) else (bi (bif decide (((i3:Int):Int)>0) then (bi (getZ l (wi ((i3:Int) - 1))) fun x23=>bi (Kcb x23 x5) fun y25=>some (decide ((y25:Int)≥0))) else (some false)) fun q20=>bif q20 then (bi (some 7) fun v=>some (.out v)) else (bi (subZ l 0 (i3:Int)) fun z32=>bi (Kcw z32 x5) fun y34=>bif y34 then (bi (some 6) fun v=>some (.out v)) else (some (.go ()))))) 0 l ()) fun q=>goI q fun a8=>some 0)
def Kcy (vals:List Int):Option Int:=
 bi (rangeM (σ:=Unit) (ρ:=Int) (fun i1 x3 s2=>bif (x3:Int) != 0 then (bi (some x3) fun v=>some (.out v)) else (some (.go ()))) 0 vals ()) fun q=>goI q fun a6=>some 0
def Kcz (k:Nat) (s:Kay) (many:Int):Option (Kbc×Kay):=
 bi (Kbu (⟨s.L,s.v_at⟩:Kay)) fun y1=>bi (Kcf k y1.2 many) fun y3=>bi (Kcn y1.1) fun y5=>bi (Kcx y3.1) fun y7=>bi (Kcy [y5,y7]) fun y9=>some ((⟨y1.1,y3.1,y9⟩:Kbc),y3.2)
def Kda (k:Nat) (s:Str):Option Bool:=
 bi (loopM (σ:=Int) (ρ:=Unit ⊕ Bool) (fun s2=>bif decide ((s2:Int)<(s.length:Int)) then (bi (getZ s s2) fun c12=>bif !(((decide (((c12.toNat:Int):Int)≥97))&&(decide (((c12.toNat:Int):Int)≤122)))||((decide ((s2:Int)>0))&&((((decide (((c12.toNat:Int):Int)≥48))&&(decide (((c12.toNat:Int):Int)≤57)))||(((c12.toNat:Int):Int)==45))||(((c12.toNat:Int):Int)==95)))) then (bi (some false) fun v=>some (.out (.inr v))) else (some (.go (wi (s2+1))))) else (some (.out (.inl ())))) k 0) fun q=>orI q fun a6=>some ((!((s:Str)==[]))&&(decide (((s.length:Int):Int)≤40)))
def Kdb (k:Nat) (l:List Str):Option Int:=
 bi (rangeM (σ:=Unit) (ρ:=Int) (fun i1 x3 s2=>bi (Kda k x3) fun y12=>bif !y12 then (bi (some 5) fun v=>some (.out v)) else (bi (bif decide (((i1:Int):Int)>0) then (bi (getZ l (wi ((i1:Int) - 1))) fun x21=>some (Op.bytesLess x3 x21||(x3:Str)==x21)) else (some false)) fun q18=>bif q18 then (bi (some 7) fun v=>some (.out v)) else (some (.go ())))) 0 l ()) fun q=>goI q fun a6=>some 0
def Kdc (n:Int) (low:Int) (high:Int):Option Bool:=
 some ((decide ((n:Int)<low))||(decide ((n:Int)>high)))
def Kdd (k:Nat) (d:Kba):Option Int:=
 bif decide (((d.Users.length:Int):Int)>200) then (some 2) else (bi (Kdb k d.Users) fun y3=>bif (y3:Int) != 0 then (some y3) else (bif decide (((d.Owners.length:Int):Int)>100) then (some 2) else (bi (rangeM (σ:=Unit) (ρ:=Int) (fun i9 x11 s10=>bi (Kda k x11.Tag) fun y20=>bif !y20 then (bi (some 5) fun v=>some (.out v)) else (bi (bif decide (((i9:Int):Int)>0) then (bi (getZ d.Owners (wi ((i9:Int) - 1))) fun x29=>some (Op.bytesLess x11.Tag x29.Tag||(x11.Tag:Str)==x29.Tag)) else (some false)) fun q26=>bif q26 then (bi (some 7) fun v=>some (.out v)) else (bi (rangeM (σ:=Unit) (ρ:=LS Unit Int) (fun i36 x38 s37=>bi (Kcl d.Users x38) fun y47=>bif !y47 then (bi (bi (some 8) fun v=>some (.out v)) fun v=>some (.out v)) else (bi (bif decide (((i36:Int):Int)>0) then (bi (getZ x11.Users (wi ((i36:Int) - 1))) fun x58=>some (Op.bytesLess x38 x58||(x38:Str)==x58)) else (some false)) fun q55=>bif q55 then (bi (bi (some 7) fun v=>some (.out v)) fun v=>some (.out v)) else (some (.go ())))) 0 x11.Users ()) fun q=>goI q fun a41=>some (.go ())))) 0 d.Owners ()) fun q=>goI q fun a14=>bi (Kdc d.Life 1 345686400) fun y67=>bif y67 then (some 1) else (some 0))))
def Kde (n:Int):Option Bool:=
 some ((decide ((n:Int)≥0))&&(decide ((n:Int)<345686400)))
def Kdf (kind:Int):Option (List Int):=
 bif (kind:Int)==1 then (some [0,2,5,6,7,8]) else (bif (kind:Int)==2 then (some [0,2]) else (bif (kind:Int)==3 then (some [0,1,2,3,4]) else (bif (kind:Int)==5 then (some [0,1,3]) else (bif (kind:Int)==6 then (some [0,1,4]) else (bif (kind:Int)==7 then (some [0,1,5]) else (some [0,1]))))))
def Kdg (k:Nat) (s:Str) (empty:Bool):Option Int:=
 bi (Kda k s) fun y1=>bif ((!y1)&&(!(empty&&((s:Str)==[])))) then (some 5) else (some 0)
def Kdh (s:Str):Option Bool:=
 bi (bif ((!((s:Str)==[]))&&(decide (((s.length:Int):Int)≤20))) then (bi (Kae s [48,49,50,51,52,53,54,55,56,57,97,98,99,100,101,102]) fun y4=>some ((y4:Str)==[])) else (some false)) fun q1=>some q1
def Kdi (k:Nat) (l:List Str):Option Int:=
 bif decide (((l.length:Int):Int)>10) then (some 2) else (bi (Kdb k l) fun y3=>some y3)
def Kdj (n:Int):Option Int:=
 bi (Kdc n 0 999999999) fun y1=>bif y1 then (some 1) else (some 0)
def Kdk (k:Nat) (s:Kbb) (field:Int):Option Int:=
 bi (bif (field:Int)==0 then (bi (Kdg k s.By ((s.Kind:Int)==3)) fun y5=>bi (some y5) fun v=>some (.inr v)) else (bif (field:Int)==1 then (bi (Kdg k s.Node false) fun y11=>bi (some y11) fun v=>some (.inr v)) else (bif (field:Int)==2 then (bi (Kdg k s.Join ((s.Kind:Int)==3)) fun y17=>bi (some y17) fun v=>some (.inr v)) else (bif (field:Int)==3 then (bi (Kdh s.Public) fun y23=>bif !y23 then (bi (some 5) fun v=>some (.inr v)) else (some (.inl ()))) else (bif (field:Int)==4 then (bi (Kdg k s.Name false) fun y31=>bi (some y31) fun v=>some (.inr v)) else (bif (field:Int)==5 then (bi (Kdi k s.Tags) fun y37=>bi (some y37) fun v=>some (.inr v)) else (bif (field:Int)==6 then (bi (Kdj s.Until) fun y43=>bi (some y43) fun v=>some (.inr v)) else (bif (field:Int)==7 then (bi (Kdj s.Uses) fun y49=>bi (some y49) fun v=>some (.inr v)) else (some (.inl ()))))))))):Option (Unit ⊕ Int)) fun q=>orI q fun a3=>some 0
def Kdl (s:List Int) (v:Int):Option Int:=
 bi (rangeM (σ:=Unit) (ρ:=Int) (fun i1 x3 s2=>bif (v:Int)==x3 then (bi (some (i1:Int)) fun v=>some (.out v)) else (some (.go ()))) 0 s ()) fun q=>goI q fun a6=>some (-1)
def Kdm (s:List Int) (v:Int):Option Bool:=
 bi (Kdl s v) fun y1=>some (decide ((y1:Int)≥0))
def Kdn (s:Kbb) (field:Int):Option Bool:=
 bif (field:Int)==0 then (some ((s.By:Str)==[])) else (bif (field:Int)==1 then (some ((s.Node:Str)==[])) else (bif (field:Int)==2 then (some ((s.Join:Str)==[])) else (bif (field:Int)==3 then (some ((s.Public:Str)==[])) else (bif (field:Int)==4 then (some ((s.Name:Str)==[])) else (bif (field:Int)==5 then (some (((s.Tags.length:Int):Int)==0)) else (bif (field:Int)==6 then (some ((s.Until:Int)==0)) else (bif (field:Int)==7 then (some ((s.Uses:Int)==0)) else (some (!s.Ready)))))))))
def Kdo (k:Nat) (s:Kbb):Option Int:=
 bi (Kde s.At) fun y1=>bif !y1 then (some 1) else (bi (Kda k s.Server) fun y5=>bif !y5 then (some 5) else (bi (Kdc s.No 1 1000000) fun y9=>bif y9 then (some 1) else (bi (Kdc s.Kind 1 9) fun y13=>bif y13 then (some 4) else (bi (Kdf s.Kind) fun y17=>bi (rangeM (σ:=Unit) (ρ:=Int) (fun i19 x21 s20=>bi (Kdk k s x21) fun y30=>bif (y30:Int) != 0 then (bi (some y30) fun v=>some (.out v)) else (some (.go ()))) 0 y17 ()) fun q=>goI q fun a24=>bi (loopM (σ:=Int) (ρ:=Unit ⊕ Int) (fun s37=>bif decide ((s37:Int)<9) then (bi (Kdm y17 s37) fun y47=>bi (bif !y47 then (bi (Kdn s s37) fun y52=>some (!y52)) else (some false)) fun q49=>bif q49 then (bi (some 3) fun v=>some (.out (.inr v))) else (some (.go (wi (s37+1))))) else (some (.out (.inl ())))) k 0) fun q=>orI q fun a41=>some 0))))
def Kdp (a:Kbb) (b:Kbb):Option Int:=
 bi (Kbz a.At b.At) fun y1=>bi (Kal a.Server b.Server) fun y3=>bi (Kbz a.No b.No) fun y5=>bi (Kca [y1,y3,y5]) fun y7=>some y7
def Kdq (s:Kbb):Option Kbd:=
 some (⟨s.Server,s.No⟩:Kbd)
def Kdr (k:Nat) (l:List Kbb):Option Int:=
 bif decide (((l.length:Int):Int)>2000) then (some 2) else (bi (rangeM (σ:=List (Kbd×Bool)) (ρ:=Int) (fun i3 x5 s4=>bi (Kdo k x5) fun y14=>bif (y14:Int) != 0 then (bi (some y14) fun v=>some (.out v)) else (bi (bif decide (((i3:Int):Int)>0) then (bi (getZ l (wi ((i3:Int) - 1))) fun x23=>bi (Kdp x23 x5) fun y25=>some (decide ((y25:Int)≥0))) else (some false)) fun q20=>bif q20 then (bi (some 7) fun v=>some (.out v)) else (bi (Kdq x5) fun y32=>bif ((mGet s4 y32).getD false) then (bi (some 6) fun v=>some (.out v)) else (bi (Kdq x5) fun y38=>some (.go (mSet s4 y38 true)))))) 0 l ([]:List (Kbd×Bool))) fun q=>goI q fun a8=>some 0)
def Kds (k:Nat) (d:Kba) (l:List Kbb):Option Int:=
 bi (Kdd k d) fun y1=>bif (y1:Int) != 0 then (some y1) else (bi (Kdr k l) fun y5=>some y5)
def Kdt (d:Kba):Option Kbg:=
 bi (rangeF (σ:=List (Str×Bool)) (fun i1 x3 s2=>some (mSet s2 x3 true)) 0 d.Users ([]:List (Str×Bool))) fun q4=>some (⟨d,q4,([]:List (Str×Nat)),([]:List (Str×Kbe)),([]:List (Str×(Tl Kbf)))⟩:Kbg)
def Kdu (p:Nat) (v_at:Int) (al:BagT):Option Int:=
 bif (p==0) then (some 0) else (gd (Nat.blt 0 p) (bi (hGet al.2.1 p) fun m5=>bi (bif m5.revoked then (some true) else (gd (Nat.blt 0 p) (bi (hGet al.2.1 p) fun m13=>some (decide ((v_at:Int)≥m13.Join.Until))))) fun q7=>bif q7 then (some 11) else (gd (Nat.blt 0 p) (bi (hGet al.2.1 p) fun m19=>gd (Nat.blt 0 p) (bi (hGet al.2.1 p) fun m23=>bif decide ((m19.used:Int)≥m23.Join.Left) then (some 12) else (some 0))))))
def Kdv (n:Kbg) (v_public:Str):Option Bool:=
 bi (rangePM (σ:=Unit) (ρ:=Bool) (fun x8 s7=>bif (x8.2.Public:Str)==v_public then (bi (some true) fun v=>some (.out v)) else (some (.go ()))) n.there ()) fun q=>goI q fun s7=>some false
def Kdw (s:List Str):Option (List Str):=
 bi (apd ([]:List Str) s) fun y1=>some y1
def Kdx (n:Kbg) (v_at:Int) (user:Str):Option Int:=
 bif (user:Str)==[] then (some 345686400) else (some (if (wi (v_at+n.d.Life))<345686400 then wi (v_at+n.d.Life) else 345686400))
def Kdy (n:Kbg) (v_at:Int) (m:Kbe) (key:Bool) (al:BagT):Option (Kbg×BagT):=
 bi (appT al.1 ((mGet n.story m.Node).getD (1,[])) [(⟨v_at,m,false,key⟩:Kbf)]) fun y1=>some ((⟨n.d,n.users,n.passes,(mSet n.there m.Node m),(mSet n.story m.Node y1.1)⟩:Kbg),(y1.2,al.2.1,al.2.2.1,al.2.2.2.1,al.2.2.2.2.1,al.2.2.2.2.2))
def Kdz (n:Kbg) (s:Kbb) (al:BagT):Option (Int×Kbg×BagT):=
 bif ((s.By:Str)==[]:Bool)==((s.Join:Str)==[]) then (some (3,n,al)) else (bi (bif !((s.By:Str)==[]) then (bif !((mGet n.users s.By).getD false) then (some true) else (bif (s.By:Str)==[] then (some (((mGet n.passes s.Join).getD 0)==0)) else (some false))) else (bif (s.By:Str)==[] then (some (((mGet n.passes s.Join).getD 0)==0)) else (some false))) fun q3=>bif q3 then (some (8,n,al)) else (bi (Kdu ((mGet n.passes s.Join).getD 0) s.At al) fun y15=>bif (y15:Int) != 0 then (some (y15,n,al)) else (bi (isNilT ((mGet n.story s.Node).getD (1,[]))) fun b19=>bif !b19 then (some (6,n,al)) else (bi (Kdv n s.Public) fun y23=>bif y23 then (some (13,n,al)) else (bif decide (((n.there.length:Int):Int)≥500) then (some (2,n,al)) else (bi (bif !(((mGet n.passes s.Join).getD 0)==0) then (gd (Nat.blt 0 ((mGet n.passes s.Join).getD 0)) (bi (hGet al.2.1 ((mGet n.passes s.Join).getD 0)) fun m34=>gd (Nat.blt 0 ((mGet n.passes s.Join).getD 0)) (bi (hGet al.2.1 ((mGet n.passes s.Join).getD 0)) fun m38=>gd (Nat.blt 0 ((mGet n.passes s.Join).getD 0)) (bi (hGet (hSet al.2.1 ((mGet n.passes s.Join).getD 0) (⟨m38.Join,m38.revoked,wi (m34.used+1)⟩:Kbj)) ((mGet n.passes s.Join).getD 0)) fun m42=>bi (Kdw m42.Join.Tags) fun y44=>gd (Nat.blt 0 ((mGet n.passes s.Join).getD 0)) (bi (hGet (hSet al.2.1 ((mGet n.passes s.Join).getD 0) (⟨m38.Join,m38.revoked,wi (m34.used+1)⟩:Kbj)) ((mGet n.passes s.Join).getD 0)) fun m48=>bi (bif ((m48.Join.Tags.length:Int):Int)==0 then (gd (Nat.blt 0 ((mGet n.passes s.Join).getD 0)) (bi (hGet (hSet al.2.1 ((mGet n.passes s.Join).getD 0) (⟨m38.Join,m38.revoked,wi (m34.used+1)⟩:Kbj)) ((mGet n.passes s.Join).getD 0)) fun m55=>some m55.Join.By)) else (some s.By)) fun q50=>bi (bif !n.d.Approve then (some true) else (gd (Nat.blt 0 ((mGet n.passes s.Join).getD 0)) (bi (hGet (hSet al.2.1 ((mGet n.passes s.Join).getD 0) (⟨m38.Join,m38.revoked,wi (m34.used+1)⟩:Kbj)) ((mGet n.passes s.Join).getD 0)) fun m64=>some m64.Join.Ready))) fun q58=>some ((al.1,(hSet al.2.1 ((mGet n.passes s.Join).getD 0) (⟨m38.Join,m38.revoked,wi (m34.used+1)⟩:Kbj)),al.2.2.1,al.2.2.2.1,al.2.2.2.2.1,al.2.2.2.2.2),(⟨s.Node,q50,s.Name,s.Public,y44,s.At,0,q58⟩:Kbe))))))) else (some (al,(⟨s.Node,s.By,s.Name,s.Public,[],s.At,0,!n.d.Approve⟩:Kbe)))) fun q29=>bi (Kdx n s.At q29.2.User) fun y67=>bi (Kdy n s.At (⟨q29.2.Node,q29.2.User,q29.2.Name,q29.2.Public,q29.2.Tags,q29.2.Joined,y67,q29.2.Approved⟩:Kbe) true q29.1) fun y69=>some (0,y69.1,y69.2)))))))
def Kea (o:Kaz) (x:Str):Option Bool:=
 some ((o.Tag:Str)==x)
def Keb (s:List Kaz) (f:Str):Option Int:=
 bi (rangeM (σ:=Unit) (ρ:=Int) (fun i1 x3 s2=>bi (Kea x3 f) fun y12=>bif y12 then (bi (some (i1:Int)) fun v=>some (.out v)) else (some (.go ()))) 0 s ()) fun q=>goI q fun a6=>some (-1)
def Kec (d:Kba) (user:Str) (tag:Str):Option (Bool×Bool):=
 bi (Keb d.Owners tag) fun y1=>bi (bif decide ((y1:Int)≥0) then (bi (getZ d.Owners y1) fun x6=>bi (Kcl x6.Users user) fun y8=>some y8) else (some false)) fun q3=>some (q3,decide ((y1:Int)≥0))
def Ked (n:Kbg) (user:Str) (tags:List Str):Option Int:=
 bi (rangeM (σ:=Unit) (ρ:=Int) (fun i1 x3 s2=>bi (Kec n.d user x3) fun y12=>bif !y12.2 then (bi (some 8) fun v=>some (.out v)) else (bif !y12.1 then (bi (some 16) fun v=>some (.out v)) else (some (.go ())))) 0 tags ()) fun q=>goI q fun a6=>some 0
def Kee (n:Kbg) (s:Kbb) (al:BagT):Option (Int×Kbg×BagT):=
 bif !(((mGet n.passes s.Join).getD 0)==0) then (some (6,n,al)) else (bi (Kdc s.Uses 1 1000) fun y3=>bi (bif y3 then (some true) else (bi (Kdc s.Until (wi (s.At+1)) 345686400) fun y9=>some y9)) fun q5=>bif q5 then (some (1,n,al)) else (bi (Ked n s.By s.Tags) fun y13=>bif (y13:Int) != 0 then (some (y13,n,al)) else (bi (Kdw s.Tags) fun y17=>some (0,(⟨n.d,n.users,(mSet n.passes s.Join (al.1.length+1)),n.there,n.story⟩:Kbg),((al.1++[false]),((al.1.length,(⟨(⟨s.Join,s.By,y17,s.Until,s.Uses,s.Ready⟩:Kbi),false,0⟩:Kbj)) :: al.2.1),al.2.2.1,al.2.2.2.1,al.2.2.2.2.1,al.2.2.2.2.2)))))
def Kef (n:Kbg) (s:Kbb) (al:BagT):Option (Int×BagT):=
 bif (((mGet n.passes s.Join).getD 0)==0) then (some (8,al)) else (gd (Nat.blt 0 ((mGet n.passes s.Join).getD 0)) (bi (hGet al.2.1 ((mGet n.passes s.Join).getD 0)) fun m5=>bif !((m5.Join.By:Str)==s.By) then (some (16,al)) else (gd (Nat.blt 0 ((mGet n.passes s.Join).getD 0)) (bi (hGet al.2.1 ((mGet n.passes s.Join).getD 0)) fun m11=>bif m11.revoked then (some (11,al)) else (gd (Nat.blt 0 ((mGet n.passes s.Join).getD 0)) (bi (hGet al.2.1 ((mGet n.passes s.Join).getD 0)) fun m17=>some (0,(al.1,(hSet al.2.1 ((mGet n.passes s.Join).getD 0) (⟨m17.Join,true,m17.used⟩:Kbj)),al.2.2.1,al.2.2.2.1,al.2.2.2.2.1,al.2.2.2.2.2))))))))
def Keg (t:Str) (x:Kbg) (x2:Str):Option Bool:=
 bi (Kec x.d x2 t) fun y1=>some y1.1
def Keh (s:List Str) (f:Kbg) (f2:Str):Option Int:=
 bi (rangeM (σ:=Unit) (ρ:=Int) (fun i1 x3 s2=>bi (Keg x3 f f2) fun y12=>bif y12 then (bi (some (i1:Int)) fun v=>some (.out v)) else (some (.go ()))) 0 s ()) fun q=>goI q fun a6=>some (-1)
def Kei (s:List Str) (f:Kbg) (f2:Str):Option Bool:=
 bi (Keh s f f2) fun y1=>some (decide ((y1:Int)≥0))
def Kej (n:Kbg) (user:Str) (m:Kbe):Option Bool:=
 bif (user:Str)==m.User then (some true) else (bi (Kei m.Tags n user) fun y3=>some y3)
def Kek (n:Kbg) (s:Kbb) (m:Kbe) (al:BagT):Option (Int×Kbg×BagT):=
 bi (bif (s.Kind:Int)==4 then (bif m.Approved then (bi (some (11,n,al)) fun v=>some (.inr v)) else (some (.inl ((⟨m.Node,m.User,m.Name,m.Public,m.Tags,m.Joined,m.Expires,true⟩:Kbe),false)))) else (bif (s.Kind:Int)==5 then (bi (Kdv n s.Public) fun y11=>bif y11 then (bi (some (13,n,al)) fun v=>some (.inr v)) else (bi (Kdx n s.At m.User) fun y17=>some (.inl ((⟨m.Node,m.User,m.Name,s.Public,m.Tags,m.Joined,y17,m.Approved⟩:Kbe),true)))) else (bif (s.Kind:Int)==6 then (bif (m.Name:Str)==s.Name then (bi (some (6,n,al)) fun v=>some (.inr v)) else (some (.inl ((⟨m.Node,m.User,s.Name,m.Public,m.Tags,m.Joined,m.Expires,m.Approved⟩:Kbe),false)))) else (bif (s.Kind:Int)==7 then (bif ((s.Tags.length:Int):Int)==0 then (bi (some (3,n,al)) fun v=>some (.inr v)) else (bi (Ked n s.By s.Tags) fun y31=>bif (y31:Int) != 0 then (bi (some (y31,n,al)) fun v=>some (.inr v)) else (bi (Kdw s.Tags) fun y37=>some (.inl ((⟨m.Node,[],m.Name,m.Public,y37,m.Joined,345686400,m.Approved⟩:Kbe),false))))) else (bif (s.Kind:Int)==8 then (bif decide ((m.Expires:Int)≤s.At) then (bi (some (11,n,al)) fun v=>some (.inr v)) else (some (.inl ((⟨m.Node,m.User,m.Name,m.Public,m.Tags,m.Joined,s.At,m.Approved⟩:Kbe),false)))) else (bi (appT al.1 ((mGet n.story s.Node).getD (1,[])) [(⟨s.At,(⟨[],[],[],[],[],0,0,false⟩:Kbe),true,false⟩:Kbf)]) fun y46=>bi (some (0,(⟨n.d,n.users,n.passes,(mDel n.there s.Node),(mSet n.story s.Node y46.1)⟩:Kbg),(y46.2,al.2.1,al.2.2.1,al.2.2.2.1,al.2.2.2.2.1,al.2.2.2.2.2))) fun v=>some (.inr v)))))):Option ((Kbe×Bool) ⊕ (Int×Kbg×BagT))) fun q=>orI q fun a3=>bi (Kdy n s.At a3.1 a3.2 al) fun y50=>some (0,y50.1,y50.2)
def Kel (n:Kbg) (s:Kbb) (al:BagT):Option (Int×Kbg×BagT):=
 bif (s.Kind:Int)==3 then (bi (Kdz n s al) fun y2=>some (y2.1,y2.2.1,y2.2.2)) else (bif !((mGet n.users s.By).getD false) then (some (8,n,al)) else (bif (s.Kind:Int)==1 then (bi (Kee n s al) fun y8=>some (y8.1,y8.2.1,y8.2.2)) else (bif (s.Kind:Int)==2 then (bi (Kef n s al) fun y12=>some (y12.1,n,y12.2)) else (bif !((mGet n.there s.Node).isSome) then (some (8,n,al)) else (bi (bif (s.Kind:Int) != 4 then (bi (Kej n s.By ((mGet n.there s.Node).getD (⟨[],[],[],[],[],0,0,false⟩:Kbe))) fun y20=>some (!y20)) else (some false)) fun q17=>bif q17 then (some (16,n,al)) else (bi (Kek n s ((mGet n.there s.Node).getD (⟨[],[],[],[],[],0,0,false⟩:Kbe)) al) fun y25=>some (y25.1,y25.2.1,y25.2.2)))))))
def Kem (k:Nat) (d:Kba) (l:List Kbb) (al:BagT):Option ((List Kbh)×Int×BagT):=
 bi (Kds k d l) fun y1=>bif (y1:Int) != 0 then (some ([],y1,al)) else (bi (Kdt d) fun y5=>bi (rangeF (σ:=BagT×(List (Str×Bool))×(List (Str×Nat))×(List (Str×Kbe))×(List (Str×(Tl Kbf)))×(List Str)×(List Kaz)×Int×Bool×(List Kbh)) (fun i7 x9 s8=>bi (Kel (⟨(⟨s8.2.2.2.2.2.1,s8.2.2.2.2.2.2.1,s8.2.2.2.2.2.2.2.1,s8.2.2.2.2.2.2.2.2.1⟩:Kba),s8.2.1,s8.2.2.1,s8.2.2.2.1,s8.2.2.2.2.1⟩:Kbg) x9 s8.1) fun y18=>bif (y18.1:Int) != 0 then (bi (apd s8.2.2.2.2.2.2.2.2.2 [(⟨(i7:Int),y18.1⟩:Kbh)]) fun y21=>some (y18.2.2,y18.2.1.users,y18.2.1.passes,y18.2.1.there,y18.2.1.story,y18.2.1.d.Users,y18.2.1.d.Owners,y18.2.1.d.Life,y18.2.1.d.Approve,y21)) else (some (y18.2.2,y18.2.1.users,y18.2.1.passes,y18.2.1.there,y18.2.1.story,y18.2.1.d.Users,y18.2.1.d.Owners,y18.2.1.d.Life,y18.2.1.d.Approve,s8.2.2.2.2.2.2.2.2.2))) 0 l (al,y5.users,y5.passes,y5.there,y5.story,y5.d.Users,y5.d.Owners,y5.d.Life,y5.d.Approve,([]:List Kbh))) fun q10=>some (q10.2.2.2.2.2.2.2.2.2,0,q10.1))
def Ken (o:Kbb) (x:Kbb):Option Bool:=
 bi (Kdq o) fun y1=>bi (Kdq x) fun y3=>some (((y1.server:Str)==y3.server)&&(((y1.no:Int)==y3.no)&&true))
def Keo (s:List Kbb) (f:Kbb):Option Int:=
 bi (rangeM (σ:=Unit) (ρ:=Int) (fun i1 x3 s2=>bi (Ken x3 f) fun y12=>bif y12 then (bi (some (i1:Int)) fun v=>some (.out v)) else (some (.go ()))) 0 s ()) fun q=>goI q fun a6=>some (-1)
def Kep (s:List Kbb) (f:Kbb):Option Bool:=
 bi (Keo s f) fun y1=>some (decide ((y1:Int)≥0))
def Keq (d:Kba) (l:List Kbb) (v_at:Int) (al:BagT):Option (Kbg×BagT):=
 bi (Kdt d) fun y1=>bi (rangeF (σ:=BagT×(List (Str×Bool))×(List (Str×Nat))×(List (Str×Kbe))×(List (Str×(Tl Kbf)))×(List Str)×(List Kaz)×Int×Bool) (fun i3 x5 s4=>bif decide ((x5.At:Int)≤v_at) then (bi (Kel (⟨(⟨s4.2.2.2.2.2.1,s4.2.2.2.2.2.2.1,s4.2.2.2.2.2.2.2.1,s4.2.2.2.2.2.2.2.2⟩:Kba),s4.2.1,s4.2.2.1,s4.2.2.2.1,s4.2.2.2.2.1⟩:Kbg) x5 s4.1) fun y15=>some (y15.2.2,y15.2.1.users,y15.2.1.passes,y15.2.1.there,y15.2.1.story,y15.2.1.d.Users,y15.2.1.d.Owners,y15.2.1.d.Life,y15.2.1.d.Approve)) else (some (s4.1,s4.2.1,s4.2.2.1,s4.2.2.2.1,s4.2.2.2.2.1,s4.2.2.2.2.2.1,s4.2.2.2.2.2.2.1,s4.2.2.2.2.2.2.2.1,s4.2.2.2.2.2.2.2.2))) 0 l (al,y1.users,y1.passes,y1.there,y1.story,y1.d.Users,y1.d.Owners,y1.d.Life,y1.d.Approve)) fun q6=>some ((⟨(⟨q6.2.2.2.2.2.1,q6.2.2.2.2.2.2.1,q6.2.2.2.2.2.2.2.1,q6.2.2.2.2.2.2.2.2⟩:Kba),q6.2.1,q6.2.2.1,q6.2.2.2.1,q6.2.2.2.2.1⟩:Kbg),q6.1)
def Ker (d:Kba) (l:List Kbb) (al:BagT):Option (Kbg×BagT):=
 bi (Keq d l 345686400 al) fun y1=>some (y1.1,y1.2)
def Kes (k:Nat) (d:Kba) (l:List Kbb) (s:Kbb) (al:BagT):Option (Int×Int×BagT):=
 bi (Kds k d l) fun y1=>bif (y1:Int) != 0 then (some (0,y1,al)) else (bi (Kdo k s) fun y5=>bif (y5:Int) != 0 then (some (0,y5,al)) else (bi (bif decide (((l.length:Int):Int)>0) then (bi (getZ l (wi ((l.length:Int) - 1))) fun x12=>bi (Kdp x12 s) fun y14=>some (decide ((y14:Int)≥0))) else (some false)) fun q9=>bif q9 then (some (0,7,al)) else (bi (Kep l s) fun y19=>bif y19 then (some (0,6,al)) else (bi (Ker d l al) fun y23=>bi (Kel y23.1 s y23.2) fun y25=>some (y25.1,0,y25.2.2)))))
def Ket (k:Nat) (d:Kba) (user:Str) (tag:Str):Option (Bool×Int):=
 bi (Kdd k d) fun y1=>bif (y1:Int) != 0 then (some (false,y1)) else (bi (Kec d user tag) fun y5=>bi (Kcl d.Users user) fun y7=>bif ((!y7)||(!y5.2)) then (some (false,8)) else (some (y5.1,0)))
def Keu (k:Nat):Option Bool:=
 bi (Ket k (⟨[[97]],[(⟨[116],[[97]]⟩:Kaz)],1,false⟩:Kba) [97] [116]) fun y1=>some (((y1.2:Int)==0)&&y1.1)
def Kev (d:Kba):Option Kbk:=
 some (⟨d,([]:List (Str×Nat)),([]:List (Str×Nat)),([]:List (Str×Bool)),([]:List (Str×Vl))⟩:Kbk)
def Kew (d:Kba) (tag:Str):Option ((List Str)×Bool):=
 bi (rangeM (σ:=Unit) (ρ:=(List Str)×Bool) (fun i1 x3 s2=>bif (x3.Tag:Str)==tag then (bi (some (x3.Users,true)) fun v=>some (.out v)) else (some (.go ()))) 0 d.Owners ()) fun q=>goI q fun a6=>some ([],false)
def Kex (d:Kba) (user:Str) (tags:List Str):Option Int:=
 bi (rangeM (σ:=Unit) (ρ:=Int) (fun i1 x3 s2=>bi (Kew d x3) fun y12=>bif !y12.2 then (bi (some 8) fun v=>some (.out v)) else (bi (Kcl y12.1 user) fun y18=>bif !y18 then (bi (some 16) fun v=>some (.out v)) else (some (.go ())))) 0 tags ()) fun q=>goI q fun a6=>some 0
def Kez (v_h:Kbk) (s:Kbb) (al:BagT):Option (Int×Kbk×BagT):=
 bi (Kcl v_h.d.Users s.By) fun y1=>bif !y1 then (some (8,v_h,al)) else (bif (((s.Kind:Int)==2)&&(((mGet v_h.keys s.Join).getD 0)==0)) then (some (8,v_h,al)) else (bi (bif (s.Kind:Int)==2 then (gd (Nat.blt 0 ((mGet v_h.keys s.Join).getD 0)) (bi (hGet al.2.2.2.2.1 ((mGet v_h.keys s.Join).getD 0)) fun m12=>some (!((m12.Join.By:Str)==s.By)))) else (some false)) fun q7=>bif q7 then (some (16,v_h,al)) else (bi (bif (s.Kind:Int)==2 then (gd (Nat.blt 0 ((mGet v_h.keys s.Join).getD 0)) (bi (hGet al.2.2.2.2.1 ((mGet v_h.keys s.Join).getD 0)) fun m22=>some m22.revoked)) else (some false)) fun q17=>bif q17 then (some (11,v_h,al)) else (bif (s.Kind:Int)==2 then (gd (Nat.blt 0 ((mGet v_h.keys s.Join).getD 0)) (bi (hGet al.2.2.2.2.1 ((mGet v_h.keys s.Join).getD 0)) fun m30=>some (0,v_h,(al.1,al.2.1,al.2.2.1,al.2.2.2.1,(hSet al.2.2.2.2.1 ((mGet v_h.keys s.Join).getD 0) (⟨m30.Join,true,m30.used⟩:Kbl)),al.2.2.2.2.2)))) else (bif !(((mGet v_h.keys s.Join).getD 0)==0) then (some (6,v_h,al)) else (bi (Kcm s.Uses 1 1000) fun y35=>bif (((!y35)||(decide ((s.Until:Int)≤s.At)))||(decide ((s.Until:Int)>345686400))) then (some (1,v_h,al)) else (bi (Kex v_h.d s.By s.Tags) fun y39=>bif (y39:Int) != 0 then (some (y39,v_h,al)) else (bi (Kdw s.Tags) fun y43=>some (0,(⟨v_h.d,(mSet v_h.keys s.Join (al.1.length+1)),v_h.nodes,v_h.ever,v_h.History⟩:Kbk),((al.1++[false]),al.2.1,al.2.2.1,al.2.2.2.1,((al.1.length,(⟨(⟨s.Join,s.By,y43,s.Until,s.Uses,s.Ready⟩:Kbi),false,0⟩:Kbl)) :: al.2.2.2.2.1),al.2.2.2.2.2))))))))))
def Kfa (v_h:Kbk) (v_public:Str) (al:BagT):Option Bool:=
 bi (rangePM (σ:=Unit) (ρ:=Bool) (fun x8 s7=>gd (Nat.blt 0 x8.2) (bi (hGet al.2.2.2.1 x8.2) fun m20=>bif (m20.Public:Str)==v_public then (bi (some true) fun v=>some (.out v)) else (some (.go ())))) v_h.nodes ()) fun q=>goI q fun s7=>some false
def Kfb (v_h:Kbk) (s:Kbb) (al:BagT):Option (Int×Kbk×BagT):=
 bif ((s.By:Str)==[]:Bool)==((s.Join:Str)==[]) then (some (3,v_h,al)) else (bi (bif !((s.By:Str)==[]) then (bi (Kcl v_h.d.Users s.By) fun y6=>bif !y6 then (some true) else (bif !((s.Join:Str)==[]) then (some (((mGet v_h.keys s.Join).getD 0)==0)) else (some false))) else (bif !((s.Join:Str)==[]) then (some (((mGet v_h.keys s.Join).getD 0)==0)) else (some false))) fun q3=>bif q3 then (some (8,v_h,al)) else (bi (bif !(((mGet v_h.keys s.Join).getD 0)==0) then (gd (Nat.blt 0 ((mGet v_h.keys s.Join).getD 0)) (bi (hGet al.2.2.2.2.1 ((mGet v_h.keys s.Join).getD 0)) fun m22=>bif m22.revoked then (some true) else (gd (Nat.blt 0 ((mGet v_h.keys s.Join).getD 0)) (bi (hGet al.2.2.2.2.1 ((mGet v_h.keys s.Join).getD 0)) fun m28=>some (decide ((s.At:Int)≥m28.Join.Until)))))) else (some false)) fun q17=>bif q17 then (some (11,v_h,al)) else (bi (bif !(((mGet v_h.keys s.Join).getD 0)==0) then (gd (Nat.blt 0 ((mGet v_h.keys s.Join).getD 0)) (bi (hGet al.2.2.2.2.1 ((mGet v_h.keys s.Join).getD 0)) fun m38=>gd (Nat.blt 0 ((mGet v_h.keys s.Join).getD 0)) (bi (hGet al.2.2.2.2.1 ((mGet v_h.keys s.Join).getD 0)) fun m42=>some (decide ((m38.used:Int)≥m42.Join.Left))))) else (some false)) fun q33=>bif q33 then (some (12,v_h,al)) else (bif ((mGet v_h.ever s.Node).getD false) then (some (6,v_h,al)) else (bi (Kfa v_h s.Public al) fun y49=>bif y49 then (some (13,v_h,al)) else (bif decide (((v_h.nodes.length:Int):Int)≥500) then (some (2,v_h,al)) else (bi (bif !(((mGet v_h.keys s.Join).getD 0)==0) then (gd (Nat.blt 0 ((mGet v_h.keys s.Join).getD 0)) (bi (hGet al.2.2.2.2.1 ((mGet v_h.keys s.Join).getD 0)) fun m60=>gd (Nat.blt 0 ((mGet v_h.keys s.Join).getD 0)) (bi (hGet al.2.2.2.2.1 ((mGet v_h.keys s.Join).getD 0)) fun m64=>bi (bif !v_h.d.Approve then (some true) else (gd (Nat.blt 0 ((mGet v_h.keys s.Join).getD 0)) (bi (hGet (hSet al.2.2.2.2.1 ((mGet v_h.keys s.Join).getD 0) (⟨m64.Join,m64.revoked,wi (m60.used+1)⟩:Kbl)) ((mGet v_h.keys s.Join).getD 0)) fun m72=>some m72.Join.Ready))) fun q66=>gd (Nat.blt 0 ((mGet v_h.keys s.Join).getD 0)) (bi (hGet (hSet al.2.2.2.2.1 ((mGet v_h.keys s.Join).getD 0) (⟨m64.Join,m64.revoked,wi (m60.used+1)⟩:Kbl)) ((mGet v_h.keys s.Join).getD 0)) fun m76=>gd (Nat.blt 0 ((mGet v_h.keys s.Join).getD 0)) (bi (hGet (hSet al.2.2.2.2.1 ((mGet v_h.keys s.Join).getD 0) (⟨m64.Join,m64.revoked,wi (m60.used+1)⟩:Kbl)) ((mGet v_h.keys s.Join).getD 0)) fun m80=>bif decide (((m80.Join.Tags.length:Int):Int)>0) then (gd (Nat.blt 0 ((mGet v_h.keys s.Join).getD 0)) (bi (hGet (hSet al.2.2.2.2.1 ((mGet v_h.keys s.Join).getD 0) (⟨m64.Join,m64.revoked,wi (m60.used+1)⟩:Kbl)) ((mGet v_h.keys s.Join).getD 0)) fun m85=>bi (Kdw m85.Join.Tags) fun y87=>some ((al.1,al.2.1,al.2.2.1,al.2.2.2.1,(hSet al.2.2.2.2.1 ((mGet v_h.keys s.Join).getD 0) (⟨m64.Join,m64.revoked,wi (m60.used+1)⟩:Kbl)),al.2.2.2.2.2),(⟨s.Node,[],s.Name,s.Public,y87,s.At,345686400,q66⟩:Kbe)))) else (some ((al.1,al.2.1,al.2.2.1,al.2.2.2.1,(hSet al.2.2.2.2.1 ((mGet v_h.keys s.Join).getD 0) (⟨m64.Join,m64.revoked,wi (m60.used+1)⟩:Kbl)),al.2.2.2.2.2),(⟨s.Node,m76.Join.By,s.Name,s.Public,[],s.At,(if 345686400<(wi (s.At+v_h.d.Life)) then 345686400 else wi (s.At+v_h.d.Life)),q66⟩:Kbe)))))))) else (some (al,(⟨s.Node,s.By,s.Name,s.Public,[],s.At,(if 345686400<(wi (s.At+v_h.d.Life)) then 345686400 else wi (s.At+v_h.d.Life)),!v_h.d.Approve⟩:Kbe)))) fun q55=>some (0,(⟨v_h.d,v_h.keys,(mSet v_h.nodes s.Node (q55.1.1.length+1)),(mSet v_h.ever s.Node true),(mSet v_h.History s.Node ((q55.1.1++[false]).length+1,[(⟨s.Public,s.At,345686400⟩:Kbm)].length))⟩:Kbk),(((q55.1.1++[false])++[true]),q55.1.2.1,(((q55.1.1++[false]).length,[(⟨s.Public,s.At,345686400⟩:Kbm)]) :: q55.1.2.2.1),((q55.1.1.length,q55.2) :: q55.1.2.2.2.1),q55.1.2.2.2.2.1,q55.1.2.2.2.2.2)))))))))
def Kfc (t:Str) (x:Kba) (x2:Str):Option Bool:=
 bi (Kew x t) fun y1=>bi (Kcl y1.1 x2) fun y3=>some y3
def Kfd (s:List Str) (f:Kba) (f2:Str):Option Int:=
 bi (rangeM (σ:=Unit) (ρ:=Int) (fun i1 x3 s2=>bi (Kfc x3 f f2) fun y12=>bif y12 then (bi (some (i1:Int)) fun v=>some (.out v)) else (some (.go ()))) 0 s ()) fun q=>goI q fun a6=>some (-1)
def Kfe (s:List Str) (f:Kba) (f2:Str):Option Bool:=
 bi (Kfd s f f2) fun y1=>some (decide ((y1:Int)≥0))
def Kff (d:Kba) (user:Str) (m:Kbe):Option Bool:=
 bi (bif (m.User:Str)==user then (some true) else (bi (Kfe m.Tags d user) fun y5=>some y5)) fun q1=>some q1
def Kfg (v_h:Kbk) (s:Kbb) (m:Nat) (al:BagT):Option (Int×Kbk×BagT):=
 bi (bif (s.Kind:Int)==5 then (bi (Kfa v_h s.Public al) fun y5=>bif y5 then (bi (some (13,v_h,al)) fun v=>some (.inr v)) else (gd (Nat.blt 0 m) (bi (hGet al.2.2.2.1 m) fun m13=>gd (Nat.blt 0 m) (bi (hGet (hSet al.2.2.2.1 m (⟨m13.Node,m13.User,m13.Name,s.Public,m13.Tags,m13.Joined,m13.Expires,m13.Approved⟩:Kbe)) m) fun m17=>gd (Nat.blt 0 m) (bi (hGet (hSet (hSet al.2.2.2.1 m (⟨m13.Node,m13.User,m13.Name,s.Public,m13.Tags,m13.Joined,m13.Expires,m13.Approved⟩:Kbe)) m (⟨m17.Node,m17.User,m17.Name,m17.Public,m17.Tags,m17.Joined,345686400,m17.Approved⟩:Kbe)) m) fun m21=>bi (bif !((m21.User:Str)==[]) then (gd (Nat.blt 0 m) (bi (hGet (hSet (hSet al.2.2.2.1 m (⟨m13.Node,m13.User,m13.Name,s.Public,m13.Tags,m13.Joined,m13.Expires,m13.Approved⟩:Kbe)) m (⟨m17.Node,m17.User,m17.Name,m17.Public,m17.Tags,m17.Joined,345686400,m17.Approved⟩:Kbe)) m) fun m28=>some (al.1,al.2.1,al.2.2.1,(hSet (hSet (hSet al.2.2.2.1 m (⟨m13.Node,m13.User,m13.Name,s.Public,m13.Tags,m13.Joined,m13.Expires,m13.Approved⟩:Kbe)) m (⟨m17.Node,m17.User,m17.Name,m17.Public,m17.Tags,m17.Joined,345686400,m17.Approved⟩:Kbe)) m (⟨m28.Node,m28.User,m28.Name,m28.Public,m28.Tags,m28.Joined,(if 345686400<(wi (s.At+v_h.d.Life)) then 345686400 else wi (s.At+v_h.d.Life)),m28.Approved⟩:Kbe)),al.2.2.2.2.1,al.2.2.2.2.2))) else (some (al.1,al.2.1,al.2.2.1,(hSet (hSet al.2.2.2.1 m (⟨m13.Node,m13.User,m13.Name,s.Public,m13.Tags,m13.Joined,m13.Expires,m13.Approved⟩:Kbe)) m (⟨m17.Node,m17.User,m17.Name,m17.Public,m17.Tags,m17.Joined,345686400,m17.Approved⟩:Kbe)),al.2.2.2.2.1,al.2.2.2.2.2))) fun q23=>gd (Nat.blt 0 ((mGet v_h.History s.Node).getD (0,0)).1) (gd (decide ((0:Int)≤(wi (((((mGet v_h.History s.Node).getD (0,0)).2:Nat):Int) - 1)))&&Nat.blt (wi (((((mGet v_h.History s.Node).getD (0,0)).2:Nat):Int) - 1)).toNat ((mGet v_h.History s.Node).getD (0,0)).2) (bi (hGet q23.2.2.1 (((mGet v_h.History s.Node).getD (0,0)).1)) fun m35=>bi (getZ m35 (wi (((((mGet v_h.History s.Node).getD (0,0)).2:Nat):Int) - 1))) fun x37=>bi (appV q23.1 (hSet q23.2.2.1 (((mGet v_h.History s.Node).getD (0,0)).1) (m35.set (wi (((((mGet v_h.History s.Node).getD (0,0)).2:Nat):Int) - 1)).toNat (⟨x37.Public,x37.From,s.At⟩:Kbm))) ((mGet v_h.History s.Node).getD (0,0)) [(⟨s.Public,s.At,345686400⟩:Kbm)]) fun y40=>some (.inl (v_h.nodes,(mSet v_h.History s.Node y40.1),(y40.2.1,q23.2.1,y40.2.2,q23.2.2.2.1,q23.2.2.2.2.1,q23.2.2.2.2.2)))))))))) else (bif (s.Kind:Int)==6 then (gd (Nat.blt 0 m) (bi (hGet al.2.2.2.1 m) fun m46=>bif (m46.Name:Str)==s.Name then (bi (some (6,v_h,al)) fun v=>some (.inr v)) else (gd (Nat.blt 0 m) (bi (hGet al.2.2.2.1 m) fun m54=>some (.inl (v_h.nodes,v_h.History,(al.1,al.2.1,al.2.2.1,(hSet al.2.2.2.1 m (⟨m54.Node,m54.User,s.Name,m54.Public,m54.Tags,m54.Joined,m54.Expires,m54.Approved⟩:Kbe)),al.2.2.2.2.1,al.2.2.2.2.2))))))) else (bif (s.Kind:Int)==7 then (bif ((s.Tags.length:Int):Int)==0 then (bi (some (3,v_h,al)) fun v=>some (.inr v)) else (bi (Kex v_h.d s.By s.Tags) fun y62=>bif (y62:Int) != 0 then (bi (some (y62,v_h,al)) fun v=>some (.inr v)) else (bi (Kdw s.Tags) fun y68=>gd (Nat.blt 0 m) (bi (hGet al.2.2.2.1 m) fun m72=>gd (Nat.blt 0 m) (bi (hGet (hSet al.2.2.2.1 m (⟨m72.Node,[],m72.Name,m72.Public,m72.Tags,m72.Joined,m72.Expires,m72.Approved⟩:Kbe)) m) fun m76=>gd (Nat.blt 0 m) (bi (hGet (hSet (hSet al.2.2.2.1 m (⟨m72.Node,[],m72.Name,m72.Public,m72.Tags,m72.Joined,m72.Expires,m72.Approved⟩:Kbe)) m (⟨m76.Node,m76.User,m76.Name,m76.Public,y68,m76.Joined,m76.Expires,m76.Approved⟩:Kbe)) m) fun m80=>some (.inl (v_h.nodes,v_h.History,(al.1,al.2.1,al.2.2.1,(hSet (hSet (hSet al.2.2.2.1 m (⟨m72.Node,[],m72.Name,m72.Public,m72.Tags,m72.Joined,m72.Expires,m72.Approved⟩:Kbe)) m (⟨m76.Node,m76.User,m76.Name,m76.Public,y68,m76.Joined,m76.Expires,m76.Approved⟩:Kbe)) m (⟨m80.Node,m80.User,m80.Name,m80.Public,m80.Tags,m80.Joined,345686400,m80.Approved⟩:Kbe)),al.2.2.2.2.1,al.2.2.2.2.2))))))))) else (bif (s.Kind:Int)==8 then (gd (Nat.blt 0 m) (bi (hGet al.2.2.2.1 m) fun m86=>bif decide ((m86.Expires:Int)≤s.At) then (bi (some (11,v_h,al)) fun v=>some (.inr v)) else (gd (Nat.blt 0 m) (bi (hGet al.2.2.2.1 m) fun m94=>some (.inl (v_h.nodes,v_h.History,(al.1,al.2.1,al.2.2.1,(hSet al.2.2.2.1 m (⟨m94.Node,m94.User,m94.Name,m94.Public,m94.Tags,m94.Joined,s.At,m94.Approved⟩:Kbe)),al.2.2.2.2.1,al.2.2.2.2.2))))))) else (gd (Nat.blt 0 ((mGet v_h.History s.Node).getD (0,0)).1) (gd (decide ((0:Int)≤(wi (((((mGet v_h.History s.Node).getD (0,0)).2:Nat):Int) - 1)))&&Nat.blt (wi (((((mGet v_h.History s.Node).getD (0,0)).2:Nat):Int) - 1)).toNat ((mGet v_h.History s.Node).getD (0,0)).2) (bi (hGet al.2.2.1 (((mGet v_h.History s.Node).getD (0,0)).1)) fun m101=>bi (getZ m101 (wi (((((mGet v_h.History s.Node).getD (0,0)).2:Nat):Int) - 1))) fun x103=>some (.inl ((mDel v_h.nodes s.Node),v_h.History,(al.1,al.2.1,(hSet al.2.2.1 (((mGet v_h.History s.Node).getD (0,0)).1) (m101.set (wi (((((mGet v_h.History s.Node).getD (0,0)).2:Nat):Int) - 1)).toNat (⟨x103.Public,x103.From,s.At⟩:Kbm))),al.2.2.2.1,al.2.2.2.2.1,al.2.2.2.2.2))))))))):Option (((List (Str×Nat))×(List (Str×Vl))×BagT) ⊕ (Int×Kbk×BagT))) fun q=>orI q fun a3=>some (0,(⟨v_h.d,v_h.keys,a3.1,v_h.ever,a3.2.1⟩:Kbk),a3.2.2)
def Kfh (v_h:Kbk) (s:Kbb) (al:BagT):Option (Int×Kbk×BagT):=
 bi (bif (s.Kind:Int)==1 then (some ((s.Kind:Int)==1)) else (some ((s.Kind:Int)==2))) fun q1=>bif q1 then (bi (Kez v_h s al) fun y6=>some (y6.1,y6.2.1,y6.2.2)) else (bif (s.Kind:Int)==3 then (bi (Kfb v_h s al) fun y10=>some (y10.1,y10.2.1,y10.2.2)) else (bi (Kcl v_h.d.Users s.By) fun y13=>bif !y13 then (some (8,v_h,al)) else (bif (((mGet v_h.nodes s.Node).getD 0)==0) then (some (8,v_h,al)) else (bif (s.Kind:Int)==4 then (gd (Nat.blt 0 ((mGet v_h.nodes s.Node).getD 0)) (bi (hGet al.2.2.2.1 ((mGet v_h.nodes s.Node).getD 0)) fun m22=>bif m22.Approved then (some (11,v_h,al)) else (gd (Nat.blt 0 ((mGet v_h.nodes s.Node).getD 0)) (bi (hGet al.2.2.2.1 ((mGet v_h.nodes s.Node).getD 0)) fun m28=>some (0,v_h,(al.1,al.2.1,al.2.2.1,(hSet al.2.2.2.1 ((mGet v_h.nodes s.Node).getD 0) (⟨m28.Node,m28.User,m28.Name,m28.Public,m28.Tags,m28.Joined,m28.Expires,true⟩:Kbe)),al.2.2.2.2.1,al.2.2.2.2.2)))))) else (gd (Nat.blt 0 ((mGet v_h.nodes s.Node).getD 0)) (bi (hGet al.2.2.2.1 ((mGet v_h.nodes s.Node).getD 0)) fun m33=>bi (Kff v_h.d s.By m33) fun y35=>bif !y35 then (some (16,v_h,al)) else (bi (Kfg v_h s ((mGet v_h.nodes s.Node).getD 0) al) fun y39=>some (y39.1,y39.2.1,y39.2.2))))))))
def Kfi (d:Kba) (l:List Kbb) (v_at:Int) (al:BagT):Option (Kbk×(List Kbh)×BagT):=
 bi (Kev d) fun y1=>bi (rangeM (σ:=BagT×(List (Str×Nat))×(List (Str×Nat))×(List (Str×Bool))×(List (Str×Vl))×(List Str)×(List Kaz)×Int×Bool×(List Kbh)) (ρ:=BagT×(List (Str×Nat))×(List (Str×Nat))×(List (Str×Bool))×(List (Str×Vl))×(List Str)×(List Kaz)×Int×Bool×(List Kbh)) (fun i3 x5 s4=>bif decide ((x5.At:Int)>v_at) then (some (.out (s4.1,s4.2.1,s4.2.2.1,s4.2.2.2.1,s4.2.2.2.2.1,s4.2.2.2.2.2.1,s4.2.2.2.2.2.2.1,s4.2.2.2.2.2.2.2.1,s4.2.2.2.2.2.2.2.2.1,s4.2.2.2.2.2.2.2.2.2))) else (bi (Kfh (⟨(⟨s4.2.2.2.2.2.1,s4.2.2.2.2.2.2.1,s4.2.2.2.2.2.2.2.1,s4.2.2.2.2.2.2.2.2.1⟩:Kba),s4.2.1,s4.2.2.1,s4.2.2.2.1,s4.2.2.2.2.1⟩:Kbk) x5 s4.1) fun y18=>bif (y18.1:Int) != 0 then (bi (apd s4.2.2.2.2.2.2.2.2.2 [(⟨(i3:Int),y18.1⟩:Kbh)]) fun y21=>some (.go (y18.2.2,y18.2.1.keys,y18.2.1.nodes,y18.2.1.ever,y18.2.1.History,y18.2.1.d.Users,y18.2.1.d.Owners,y18.2.1.d.Life,y18.2.1.d.Approve,y21))) else (some (.go (y18.2.2,y18.2.1.keys,y18.2.1.nodes,y18.2.1.ever,y18.2.1.History,y18.2.1.d.Users,y18.2.1.d.Owners,y18.2.1.d.Life,y18.2.1.d.Approve,s4.2.2.2.2.2.2.2.2.2))))) 0 l (al,y1.keys,y1.nodes,y1.ever,y1.History,y1.d.Users,y1.d.Owners,y1.d.Life,y1.d.Approve,([]:List Kbh))) fun q=>bi (lsN q fun s4=>(s4.1,s4.2.1,s4.2.2.1,s4.2.2.2.1,s4.2.2.2.2.1,s4.2.2.2.2.2.1,s4.2.2.2.2.2.2.1,s4.2.2.2.2.2.2.2.1,s4.2.2.2.2.2.2.2.2.1,s4.2.2.2.2.2.2.2.2.2)) fun q10=>some ((⟨(⟨q10.2.2.2.2.2.1,q10.2.2.2.2.2.2.1,q10.2.2.2.2.2.2.2.1,q10.2.2.2.2.2.2.2.2.1⟩:Kba),q10.2.1,q10.2.2.1,q10.2.2.2.1,q10.2.2.2.2.1⟩:Kbk),q10.2.2.2.2.2.2.2.2.2,q10.1)
def Kfj (d:Kba) (l:List Kbb) (al:BagT):Option ((List Kbh)×BagT):=
 bi (Kfi d l 345686400 al) fun y1=>some (y1.2.1,y1.2.2)
def Kfk (s1:List Kbh) (s2:List Kbh):Option Bool:=
 bif ((s1.length:Int):Int) != (s2.length:Int) then (some false) else (bi (rangeM (σ:=Unit) (ρ:=Bool) (fun i3 x5 s4=>bi (getZ s2 (i3:Int)) fun x14=>bif !(((x5.Step:Int)==x14.Step)&&(((x5.Why:Int)==x14.Why)&&true)) then (bi (some false) fun v=>some (.out v)) else (some (.go ()))) 0 s1 ()) fun q=>goI q fun a8=>some true)
def Kfl (x:Kbb) (x2:Kbb):Option Bool:=
 some (((x.Server:Str)==x2.Server)&&((x.No:Int)==x2.No))
def Kfm (s:List Kbb) (f:Kbb):Option Int:=
 bi (rangeM (σ:=Unit) (ρ:=Int) (fun i1 x3 s2=>bi (Kfl x3 f) fun y12=>bif y12 then (bi (some (i1:Int)) fun v=>some (.out v)) else (some (.go ()))) 0 s ()) fun q=>goI q fun a6=>some (-1)
def Kfn (s:List Kbb) (f:Kbb):Option Bool:=
 bi (Kfm s f) fun y1=>some (decide ((y1:Int)≥0))
def Kfo (l:List Kbb) (s:Kbb):Option Int:=
 bi (Kct s) fun y1=>bif (y1:Int) != 0 then (some y1) else (bi (bif decide (((l.length:Int):Int)>0) then (bi (getZ l (wi ((l.length:Int) - 1))) fun x8=>bi (Kcb x8 s) fun y10=>some (decide ((y10:Int)≥0))) else (some false)) fun q5=>bif q5 then (some 7) else (bi (Kfn l s) fun y15=>bif y15 then (some 6) else (some 0)))
def Kfp (d:Kba) (l:List Kbb) (s:Kbb) (al:BagT):Option (Int×BagT):=
 bi (Kfi d l 345686400 al) fun y1=>bi (Kfh y1.1 s y1.2.2) fun y3=>some (y3.1,y3.2.2)
def Kfq (k:Nat) (l:List Int) (al:BagT):Option (Bool×BagT):=
 bi (Kbp (⟨l,0⟩:Kay) 0 14) fun y1=>bi (Kcz k y1.2 y1.1) fun y3=>bi (Kbq y3.2 [0,100,400,1000]) fun y5=>bi (Kbx y5.2 y5.1) fun y7=>bi (Kbq y7.2 [1,50,50,50]) fun y9=>bi (Kem k y3.1.d y3.1.l al) fun y11=>bi (Kes k y3.1.d y3.1.l (⟨y7.1.At,y7.1.Server,y9.1,y7.1.Kind,y7.1.By,y7.1.Node,y7.1.Join,y7.1.Public,y7.1.Name,y7.1.Tags,y7.1.Until,y7.1.Uses,y7.1.Ready⟩:Kbb) y11.2.2) fun y13=>bif (y3.1.fault:Int) != 0 then (bi (bif (((((y11.2.1:Int)==y3.1.fault)&&((y13.2.1:Int)==y3.1.fault))&&(((y11.1.length:Int):Int)==0))&&((y13.1:Int)==0)) then (bi (Keu k) fun y19=>some y19) else (some false)) fun q16=>some (q16,y13.2.2)) else (bi (bif (y11.2.1:Int) != 0 then (some (y13.2.2,true)) else (bi (Kfj y3.1.d y3.1.l y13.2.2) fun y27=>bi (Kfk y11.1 y27.1) fun y29=>some (y27.2,!y29))) fun q23=>bif q23.2 then (some (false,q23.1)) else (bi (Kfo y3.1.l (⟨y7.1.At,y7.1.Server,y9.1,y7.1.Kind,y7.1.By,y7.1.Node,y7.1.Join,y7.1.Public,y7.1.Name,y7.1.Tags,y7.1.Until,y7.1.Uses,y7.1.Ready⟩:Kbb)) fun y33=>bif (y33:Int) != 0 then (bi (bif (((y13.2.1:Int)==y33)&&((y13.1:Int)==0)) then (bi (Keu k) fun y39=>some y39) else (some false)) fun q36=>some (q36,q23.1)) else (bi (bif (y13.2.1:Int)==0 then (bi (Kfp y3.1.d y3.1.l (⟨y7.1.At,y7.1.Server,y9.1,y7.1.Kind,y7.1.By,y7.1.Node,y7.1.Join,y7.1.Public,y7.1.Name,y7.1.Tags,y7.1.Until,y7.1.Uses,y7.1.Ready⟩:Kbb) q23.1) fun y46=>some (y46.2,(y13.1:Int)==y46.1)) else (some (q23.1,false))) fun q43=>bi (bif q43.2 then (bi (Keu k) fun y52=>some y52) else (some false)) fun q49=>some (q49,q43.1))))
def Kfr (p:Kbj) (v_at:Int):Option Int:=
 bif (p.revoked||(decide ((v_at:Int)≥p.Join.Until))) then (some 11) else (bif decide ((p.used:Int)≥p.Join.Left) then (some 12) else (some 0))
end
end Go.Gk
