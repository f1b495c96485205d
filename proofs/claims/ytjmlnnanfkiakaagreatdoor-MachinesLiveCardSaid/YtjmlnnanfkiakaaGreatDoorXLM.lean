import Derived.Test.YtjmlnnanfkiakaaGreatDoorMStr3
import Derived.Test.YtjmlnnanfkiakaaGreatDoorGk53
set_option linter.unusedVariables false
namespace Go.Gk
noncomputable section
structure Lev where
 L:List Int
 v_at:Int
 deriving DecidableEq
structure Lew where
 Tag:Str
 Users:List Str
 deriving DecidableEq
structure Lex where
 Users:List Str
 Owners:List Lew
 Life:Int
 Approve:Bool
 deriving DecidableEq
structure Ley where
 At:Int
 Server:Str
 No:Int
 Kind:Int
 By:Str
 Node:Str
 Join:Str
 Public:Str
 Name:Str
 Tags:List Str
 Until:Int
 Uses:Int
 Ready:Bool
 deriving DecidableEq
structure Lez where
 d:Lex
 l:List Ley
 fault:Int
 deriving DecidableEq
structure Lfa where
 From:Int
 To:Int
 deriving DecidableEq
structure Lfb where
 server:Str
 no:Int
 deriving DecidableEq
structure Lfc where
 Node:Str
 User:Str
 Name:Str
 Public:Str
 Tags:List Str
 Joined:Int
 Expires:Int
 Approved:Bool
 deriving DecidableEq
structure Lfd where
 v_at:Int
 is:Lfc
 gone:Bool
 key:Bool
 deriving DecidableEq
structure Lfe where
 d:Lex
 users:List (Str×Bool)
 passes:List (Str×Nat)
 there:List (Str×Lfc)
 story:List (Str×(Tl Lfd))
 deriving DecidableEq
structure Lff where
 Key:Str
 By:Str
 Tags:List Str
 Until:Int
 Left:Int
 Ready:Bool
 deriving DecidableEq
structure Lfg where
 Join:Lff
 revoked:Bool
 used:Int
 deriving DecidableEq
structure Lfh where
 d:Lex
 keys:List (Str×Nat)
 nodes:List (Str×Nat)
 ever:List (Str×Bool)
 History:List (Str×Vl)
 deriving DecidableEq
structure Lfi where
 Step:Int
 Why:Int
 deriving DecidableEq
structure Lfj where
 Join:Lff
 revoked:Bool
 used:Int
 deriving DecidableEq
structure Lfk where
 Public:Str
 From:Int
 To:Int
 deriving DecidableEq
abbrev BagT:=List Bool×List (Nat×Lfg)×List (Nat×(List Lfk))×List (Nat×Lfc)×List (Nat×Lfj)×List (Nat×Str)
def Lfl(x:Int)(n:Int):Option Int:=
 bif decide ((n:Int)<1) then(some 0) else(bi (remZ x n) fun y3=>bi (bif decide ((y3:Int)<0) then(some (wi (y3+n))) else(some y3)) fun q5=>some q5)
def Lfm(s:Lev)(n:Int):Option (Int×Lev):=
 bif ((s.L.length:Int):Int)==0 then(bi (Lfl (wi ((wi (s.v_at+1)) * 7919)) n) fun y2=>some (y2,(⟨s.L,wi (s.v_at+1)⟩:Lev))) else(bi (remZ (wi ((wi (s.v_at+1)) - 1)) (s.L.length:Int)) fun y5=>bi (divZ .i64 (wi ((wi (s.v_at+1)) - 1)) (s.L.length:Int)) fun y7=>bi (getZ s.L y5) fun x9=>bi (Lfl x9 1073741824) fun y11=>bi (Lfl (wi (y11+(wi (y7 * (wi (7919+y5)))))) n) fun y13=>some (y13,(⟨s.L,wi (s.v_at+1)⟩:Lev)))
def Lfn(s:Lev)(low:Int)(high:Int):Option (Int×Lev):=
 bif decide ((high:Int)<low) then(some (low,s)) else(bi (Lfm s (wi ((wi (high - low))+1))) fun y3=>some (wi (low+y3.1),y3.2))
def Lfo(s:Lev)(l:List Int):Option (Int×Lev):=
 bi (Lfm s (l.length:Int)) fun y1=>bi (getZ l y1.1) fun x3=>some (x3,y1.2)
def Lfp(s:Lev)(n:Int):Option (Bool×Lev):=
 bi (Lfm s n) fun y1=>some ((y1.1:Int)==0,y1.2)
def Lfq(s:Lev):Option (Lex×Lev):=
 bi (Lfm s 3) fun y1=>bi (getZ [[[97,110,110],[98,111,98]],[[98,111,98]],[]] y1.1) fun x3=>bi (Lfm y1.2 2) fun y5=>bi (getZ [[[97,110,110]],[[97,110,110],[99,105,100]]] y5.1) fun x7=>bi (Lfo y5.2 [20,60,100,1000]) fun y9=>bi (Lfp y9.2 3) fun y11=>some ((⟨[[97,110,110],[98,111,98],[99,105,100]],[(⟨[100,98],x3⟩:Lew),(⟨[119,101,98],x7⟩:Lew)],y9.1,y11.1⟩:Lex),y11.2)
def Lfr(s:Lev)(l:List Str):Option (Str×Lev):=
 bi (Lfm s (l.length:Int)) fun y1=>bi (getZ l y1.1) fun x3=>some (x3,y1.2)
def Lfs(s:Lev):Option (Lex×Lev):=
 bi (Lfq s) fun y1=>bi (Lfp y1.2 15) fun y3=>bi (bif y3.1 then(bi (Lfm y3.2 4) fun y8=>bif (y8.1:Int)==0 then(bi (Lfr y8.2 [[],[97,110,110],[65]]) fun y11=>bi (apd y1.1.Users [y11.1]) fun y13=>some (y11.2,y13,y1.1.Owners,y1.1.Life)) else(bif (y8.1:Int)==1 then(bi (Lfr y8.2 [[],[100,98],[122,122]]) fun y17=>bi (Lfr y17.2 [[97,110,110],[110,111,110,101]]) fun y19=>bi (apd y1.1.Owners [(⟨y17.1,[y19.1]⟩:Lew)]) fun y21=>some (y19.2,y1.1.Users,y21,y1.1.Life)) else(bif (y8.1:Int)==2 then(bi (Lfr y8.2 [[97,110,110],[98,111,98]]) fun y25=>bi (getZ y1.1.Owners 0) fun x27=>some (y25.2,y1.1.Users,y1.1.Owners.set ((0:Int).toNat) (⟨x27.Tag,[[98,111,98],y25.1]⟩:Lew),y1.1.Life)) else(bi (Lfo y8.2 [0,345686400,345686401]) fun y31=>some (y31.2,y1.1.Users,y1.1.Owners,y31.1))))) else(some (y3.2,y1.1.Users,y1.1.Owners,y1.1.Life))) fun q5=>some ((⟨q5.2.1,q5.2.2.1,q5.2.2.2,y1.1.Approve⟩:Lex),q5.1)
def Lft(s:Lev):Option (Str×Lev):=
 bi (Lfr s [[97,110,110],[97,110,110],[97,110,110],[98,111,98],[99,105,100],[122,101,100]]) fun y1=>some (y1.1,y1.2)
def Lfu(s:Lev):Option ((List Str)×Lev):=
 bi (Lfm s 6) fun y1=>bi (getZ [[],[[119,101,98]],[[119,101,98]],[[100,98]],[[100,98],[119,101,98]],[[110,111,110,101]]] y1.1) fun x3=>some (x3,y1.2)
def Lfv(s:Lev)(v_at:Int):Option (Ley×Lev):=
 bi (Lfr s [[115,49],[115,49],[115,50]]) fun y1=>bi (Lfo y1.2 [1,2,3,3,3,3,3,4,5,5,6,7,7,8,9]) fun y3=>bi (Lft y3.2) fun y5=>bi (Lfr y5.2 [[110,97],[110,97],[110,98],[110,98],[110,99],[110,100]]) fun y7=>bi (Lfr y7.2 [[107,49],[107,49],[107,50]]) fun y9=>bi (Lfr y9.2 [[48,97],[48,98],[48,99],[48,100],[48,101],[49,97],[49,98]]) fun y11=>bi (bif (y3.1:Int)==1 then(bi (Lfu y11.2) fun y16=>bi (Lfo y16.2 [0,5,50,200]) fun y18=>bi (Lfo y18.2 [0,1,2,1000,1001]) fun y20=>bi (Lfp y20.2 2) fun y22=>some (y22.2,(⟨v_at,y1.1,0,y3.1,y5.1,[],y9.1,[],[],y16.1,wi (v_at+y18.1),y20.1,y22.1⟩:Ley))) else(bif (y3.1:Int)==2 then(some (y11.2,(⟨v_at,y1.1,0,y3.1,y5.1,[],y9.1,[],[],[],0,0,false⟩:Ley))) else(bif (y3.1:Int)==3 then(bi (Lfr y11.2 [y7.1,[98,111,120],[98,111,120],[119,101,98]]) fun y28=>bi (Lfp y28.2 4) fun y30=>bif y30.1 then(bi (Lfp y30.2 8) fun y33=>bif !y33.1 then(some (y33.2,(⟨v_at,y1.1,0,y3.1,[],y7.1,y9.1,y11.1,y28.1,[],0,0,false⟩:Ley))) else(some (y33.2,(⟨v_at,y1.1,0,y3.1,y5.1,y7.1,y9.1,y11.1,y28.1,[],0,0,false⟩:Ley)))) else(some (y30.2,(⟨v_at,y1.1,0,y3.1,y5.1,y7.1,[],y11.1,y28.1,[],0,0,false⟩:Ley)))) else(bif (y3.1:Int)==5 then(some (y11.2,(⟨v_at,y1.1,0,y3.1,y5.1,y7.1,[],y11.1,[],[],0,0,false⟩:Ley))) else(bif (y3.1:Int)==6 then(bi (Lfr y11.2 [[98,111,120],[119,101,98],[109,97,99]]) fun y42=>some (y42.2,(⟨v_at,y1.1,0,y3.1,y5.1,y7.1,[],[],y42.1,[],0,0,false⟩:Ley))) else(bif (y3.1:Int)==7 then(bi (Lfu y11.2) fun y46=>some (y46.2,(⟨v_at,y1.1,0,y3.1,y5.1,y7.1,[],[],[],y46.1,0,0,false⟩:Ley))) else(some (y11.2,(⟨v_at,y1.1,0,y3.1,y5.1,y7.1,[],[],[],[],0,0,false⟩:Ley))))))))) fun q13=>some (q13.2,q13.1)
def Lfw(x:Int):Option Bool:=
 some ((x:Int) != x)
def Lfx(x:Int)(y:Int):Option Int:=
 bi (Lfw x) fun y1=>bi (Lfw y) fun y3=>bif y1 then(bif y3 then(some 0) else(some (-1))) else(bif y3 then(some 1) else(bif decide ((x:Int)<y) then(some (-1)) else(bif decide ((x:Int)>y) then(some 1) else(some 0))))
def Lfy(vals:List Int):Option Int:=
 bi (rangeM (σ:=Unit) (ρ:=Int) (fun i1 x3 s2=>bif (x3:Int) != 0 then(bi (some x3) fun v=>some (.out v)) else(some (.go ()))) 0 vals ()) fun q=>goI q fun a6=>some 0
def Lfz(a:Ley)(b:Ley):Option Int:=
 bi (Lfx a.At b.At) fun y1=>bi (Kqy a.Server b.Server) fun y3=>bi (Lfx a.No b.No) fun y5=>bi (Lfy [y1,y3,y5]) fun y7=>some y7
def Lga(k:Nat)(data:List Ley)(a:Int)(b:Int):Option (List Ley):=
 bi (loopM (σ:=(List Ley)×Int) (ρ:=List Ley) (fun s2=>bif decide ((s2.2:Int)<b) then(bi (loopM (σ:=(List Ley)×Int) (ρ:=List Ley) (fun s13=>bi (bif decide ((s13.2:Int)>a) then(bi (getZ s13.1 s13.2) fun x25=>bi (getZ s13.1 (wi (s13.2 - 1))) fun x28=>bi (Lfz x25 x28) fun y31=>some (decide ((y31:Int)<0))) else(some false)) fun q22=>bif q22 then(bi (getZ s13.1 (wi (s13.2 - 1))) fun x35=>bi (getZ s13.1 s13.2) fun x38=>bi (getZ s13.1 s13.2) fun x41=>bi (getZ s13.1 (wi (s13.2 - 1))) fun x44=>bi (getZ (s13.1.set s13.2.toNat x35) (((wi (s13.2 - 1)).toNat:Nat):Int)) fun x47=>some (.go ((s13.1.set s13.2.toNat x35).set ((wi (s13.2 - 1)).toNat) x38,wi (s13.2 - 1)))) else(some (.out s13.1))) k (s2.1,s2.2)) fun q15=>some (.go (q15,wi (s2.2+1)))) else(some (.out s2.1))) k (data,wi (a+1))) fun q4=>some q4
def Lgb(k:Nat)(data:List Ley)(n:Int):Option (List Ley):=
 bi (loopM (σ:=(List Ley)×Int×Int) (ρ:=(List Ley)×Int) (fun s2=>bif decide ((s2.2.2:Int)≤n) then(bi (Lga k s2.1 s2.2.1 s2.2.2) fun y12=>gd (decide (y12.length=s2.1.length)) (some (.go (y12,s2.2.2,wi (s2.2.2+20))))) else(some (.out (s2.1,s2.2.1)))) k (data,0,20)) fun q4=>bi (Lga k q4.1 q4.2 n) fun y17=>gd (decide (y17.length=q4.1.length)) (bi (loopM (σ:=Int) (ρ:=Unit) (fun s22=>bif decide ((s22:Int)<n) then(bi (loopM (σ:=Unit) (ρ:=Unit) (fun s33=>bif decide ((wi (2 * s22):Int)≤n) then none else(some (.out ()))) k ()) fun q35=>bif decide ((wi (0+s22):Int)<n) then none else(some (.go (wi (s22 * 2))))) else(some (.out ()))) k 20) fun q24=>some y17)
def Lgc(k:Nat)(x:List Ley):Option (List Ley):=
 bi (Lgb k x (x.length:Int)) fun y1=>some y1
def Lgd(k:Nat)(s:Lev)(many:Int):Option ((List Ley)×Lev):=
 bi (Lfm s 5) fun y1=>bi (gd (decide (many≤9223372036854775807)) (rangeG (σ:=Lev×(List Ley)×(List (Str×Int))×Int) (fun i3 s4=>bi (Lfv s4.1 s4.2.2.2) fun y15=>bi (apd s4.2.1 [(⟨y15.1.At,y15.1.Server,((mGet (mSet s4.2.2.1 y15.1.Server (wi (((mGet s4.2.2.1 y15.1.Server).getD 0)+1))) y15.1.Server).getD 0),y15.1.Kind,y15.1.By,y15.1.Node,y15.1.Join,y15.1.Public,y15.1.Name,y15.1.Tags,y15.1.Until,y15.1.Uses,y15.1.Ready⟩:Ley)]) fun y17=>bi (Lfo y15.2 [0,1,1,5,20,60]) fun y19=>some (y19.2,y17,(mSet s4.2.2.1 y15.1.Server (wi (((mGet s4.2.2.1 y15.1.Server).getD 0)+1))),wi (s4.2.2.2+y19.1))) many (y1.2,([]:List Ley),([]:List (Str×Int)),y1.1))) fun q6=>bi (Lgc k q6.2.1) fun y21=>gd (decide (y21.length=q6.2.1.length)) (bi (bif decide (((y21.length:Int):Int)>0) then(bi (Lfp q6.1 15) fun y28=>some (y28.2,y28.1)) else(some (q6.1,false))) fun q25=>bi (bif q25.2 then(bi (Lfm q25.1 (y21.length:Int)) fun y34=>bi (getZ y21 y34.1) fun x36=>bi (Lfm y34.2 6) fun y39=>bif (y39.1:Int)==0 then(bi (Lfo y39.2 [-1,0,345686400]) fun y42=>some (y42.2,y21.set y34.1.toNat (⟨y42.1,x36.Server,x36.No,x36.Kind,x36.By,x36.Node,x36.Join,x36.Public,x36.Name,x36.Tags,x36.Until,x36.Uses,x36.Ready⟩:Ley))) else(bif (y39.1:Int)==1 then(bi (Lfr y39.2 [[],[115,49]]) fun y46=>bi (Lfo y46.2 [0,1,1000001]) fun y48=>some (y48.2,(y21.set y34.1.toNat (⟨x36.At,y46.1,x36.No,x36.Kind,x36.By,x36.Node,x36.Join,x36.Public,x36.Name,x36.Tags,x36.Until,x36.Uses,x36.Ready⟩:Ley)).set y34.1.toNat (⟨(⟨x36.At,y46.1,x36.No,x36.Kind,x36.By,x36.Node,x36.Join,x36.Public,x36.Name,x36.Tags,x36.Until,x36.Uses,x36.Ready⟩:Ley).At,(⟨x36.At,y46.1,x36.No,x36.Kind,x36.By,x36.Node,x36.Join,x36.Public,x36.Name,x36.Tags,x36.Until,x36.Uses,x36.Ready⟩:Ley).Server,y48.1,(⟨x36.At,y46.1,x36.No,x36.Kind,x36.By,x36.Node,x36.Join,x36.Public,x36.Name,x36.Tags,x36.Until,x36.Uses,x36.Ready⟩:Ley).Kind,(⟨x36.At,y46.1,x36.No,x36.Kind,x36.By,x36.Node,x36.Join,x36.Public,x36.Name,x36.Tags,x36.Until,x36.Uses,x36.Ready⟩:Ley).By,(⟨x36.At,y46.1,x36.No,x36.Kind,x36.By,x36.Node,x36.Join,x36.Public,x36.Name,x36.Tags,x36.Until,x36.Uses,x36.Ready⟩:Ley).Node,(⟨x36.At,y46.1,x36.No,x36.Kind,x36.By,x36.Node,x36.Join,x36.Public,x36.Name,x36.Tags,x36.Until,x36.Uses,x36.Ready⟩:Ley).Join,(⟨x36.At,y46.1,x36.No,x36.Kind,x36.By,x36.Node,x36.Join,x36.Public,x36.Name,x36.Tags,x36.Until,x36.Uses,x36.Ready⟩:Ley).Public,(⟨x36.At,y46.1,x36.No,x36.Kind,x36.By,x36.Node,x36.Join,x36.Public,x36.Name,x36.Tags,x36.Until,x36.Uses,x36.Ready⟩:Ley).Name,(⟨x36.At,y46.1,x36.No,x36.Kind,x36.By,x36.Node,x36.Join,x36.Public,x36.Name,x36.Tags,x36.Until,x36.Uses,x36.Ready⟩:Ley).Tags,(⟨x36.At,y46.1,x36.No,x36.Kind,x36.By,x36.Node,x36.Join,x36.Public,x36.Name,x36.Tags,x36.Until,x36.Uses,x36.Ready⟩:Ley).Until,(⟨x36.At,y46.1,x36.No,x36.Kind,x36.By,x36.Node,x36.Join,x36.Public,x36.Name,x36.Tags,x36.Until,x36.Uses,x36.Ready⟩:Ley).Uses,(⟨x36.At,y46.1,x36.No,x36.Kind,x36.By,x36.Node,x36.Join,x36.Public,x36.Name,x36.Tags,x36.Until,x36.Uses,x36.Ready⟩:Ley).Ready⟩:Ley))) else(bif (y39.1:Int)==2 then(bi (Lfo y39.2 [0,10,3]) fun y53=>some (y53.2,y21.set y34.1.toNat (⟨x36.At,x36.Server,x36.No,y53.1,x36.By,x36.Node,x36.Join,x36.Public,x36.Name,x36.Tags,x36.Until,x36.Uses,x36.Ready⟩:Ley))) else(bif (y39.1:Int)==3 then(bi (Lfr y39.2 [[],[65],[97,110,110]]) fun y57=>bi (Lfr y57.2 [[],[110,97]]) fun y59=>some (y59.2,(y21.set y34.1.toNat (⟨x36.At,x36.Server,x36.No,x36.Kind,y57.1,x36.Node,x36.Join,x36.Public,x36.Name,x36.Tags,x36.Until,x36.Uses,x36.Ready⟩:Ley)).set y34.1.toNat (⟨(⟨x36.At,x36.Server,x36.No,x36.Kind,y57.1,x36.Node,x36.Join,x36.Public,x36.Name,x36.Tags,x36.Until,x36.Uses,x36.Ready⟩:Ley).At,(⟨x36.At,x36.Server,x36.No,x36.Kind,y57.1,x36.Node,x36.Join,x36.Public,x36.Name,x36.Tags,x36.Until,x36.Uses,x36.Ready⟩:Ley).Server,(⟨x36.At,x36.Server,x36.No,x36.Kind,y57.1,x36.Node,x36.Join,x36.Public,x36.Name,x36.Tags,x36.Until,x36.Uses,x36.Ready⟩:Ley).No,(⟨x36.At,x36.Server,x36.No,x36.Kind,y57.1,x36.Node,x36.Join,x36.Public,x36.Name,x36.Tags,x36.Until,x36.Uses,x36.Ready⟩:Ley).Kind,(⟨x36.At,x36.Server,x36.No,x36.Kind,y57.1,x36.Node,x36.Join,x36.Public,x36.Name,x36.Tags,x36.Until,x36.Uses,x36.Ready⟩:Ley).By,y59.1,(⟨x36.At,x36.Server,x36.No,x36.Kind,y57.1,x36.Node,x36.Join,x36.Public,x36.Name,x36.Tags,x36.Until,x36.Uses,x36.Ready⟩:Ley).Join,(⟨x36.At,x36.Server,x36.No,x36.Kind,y57.1,x36.Node,x36.Join,x36.Public,x36.Name,x36.Tags,x36.Until,x36.Uses,x36.Ready⟩:Ley).Public,(⟨x36.At,x36.Server,x36.No,x36.Kind,y57.1,x36.Node,x36.Join,x36.Public,x36.Name,x36.Tags,x36.Until,x36.Uses,x36.Ready⟩:Ley).Name,(⟨x36.At,x36.Server,x36.No,x36.Kind,y57.1,x36.Node,x36.Join,x36.Public,x36.Name,x36.Tags,x36.Until,x36.Uses,x36.Ready⟩:Ley).Tags,(⟨x36.At,x36.Server,x36.No,x36.Kind,y57.1,x36.Node,x36.Join,x36.Public,x36.Name,x36.Tags,x36.Until,x36.Uses,x36.Ready⟩:Ley).Until,(⟨x36.At,x36.Server,x36.No,x36.Kind,y57.1,x36.Node,x36.Join,x36.Public,x36.Name,x36.Tags,x36.Until,x36.Uses,x36.Ready⟩:Ley).Uses,(⟨x36.At,x36.Server,x36.No,x36.Kind,y57.1,x36.Node,x36.Join,x36.Public,x36.Name,x36.Tags,x36.Until,x36.Uses,x36.Ready⟩:Ley).Ready⟩:Ley))) else(bif (y39.1:Int)==4 then(bi (Kqt [97] 21) fun y64=>bi (Lfr y39.2 [[],[120,121,122],[48,65],y64]) fun y66=>bi (Lfo y66.2 [0,-1,1000000000]) fun y68=>some (y68.2,(y21.set y34.1.toNat (⟨x36.At,x36.Server,x36.No,x36.Kind,x36.By,x36.Node,x36.Join,y66.1,x36.Name,x36.Tags,x36.Until,x36.Uses,x36.Ready⟩:Ley)).set y34.1.toNat (⟨(⟨x36.At,x36.Server,x36.No,x36.Kind,x36.By,x36.Node,x36.Join,y66.1,x36.Name,x36.Tags,x36.Until,x36.Uses,x36.Ready⟩:Ley).At,(⟨x36.At,x36.Server,x36.No,x36.Kind,x36.By,x36.Node,x36.Join,y66.1,x36.Name,x36.Tags,x36.Until,x36.Uses,x36.Ready⟩:Ley).Server,(⟨x36.At,x36.Server,x36.No,x36.Kind,x36.By,x36.Node,x36.Join,y66.1,x36.Name,x36.Tags,x36.Until,x36.Uses,x36.Ready⟩:Ley).No,(⟨x36.At,x36.Server,x36.No,x36.Kind,x36.By,x36.Node,x36.Join,y66.1,x36.Name,x36.Tags,x36.Until,x36.Uses,x36.Ready⟩:Ley).Kind,(⟨x36.At,x36.Server,x36.No,x36.Kind,x36.By,x36.Node,x36.Join,y66.1,x36.Name,x36.Tags,x36.Until,x36.Uses,x36.Ready⟩:Ley).By,(⟨x36.At,x36.Server,x36.No,x36.Kind,x36.By,x36.Node,x36.Join,y66.1,x36.Name,x36.Tags,x36.Until,x36.Uses,x36.Ready⟩:Ley).Node,(⟨x36.At,x36.Server,x36.No,x36.Kind,x36.By,x36.Node,x36.Join,y66.1,x36.Name,x36.Tags,x36.Until,x36.Uses,x36.Ready⟩:Ley).Join,(⟨x36.At,x36.Server,x36.No,x36.Kind,x36.By,x36.Node,x36.Join,y66.1,x36.Name,x36.Tags,x36.Until,x36.Uses,x36.Ready⟩:Ley).Public,(⟨x36.At,x36.Server,x36.No,x36.Kind,x36.By,x36.Node,x36.Join,y66.1,x36.Name,x36.Tags,x36.Until,x36.Uses,x36.Ready⟩:Ley).Name,(⟨x36.At,x36.Server,x36.No,x36.Kind,x36.By,x36.Node,x36.Join,y66.1,x36.Name,x36.Tags,x36.Until,x36.Uses,x36.Ready⟩:Ley).Tags,y68.1,(⟨x36.At,x36.Server,x36.No,x36.Kind,x36.By,x36.Node,x36.Join,y66.1,x36.Name,x36.Tags,x36.Until,x36.Uses,x36.Ready⟩:Ley).Uses,(⟨x36.At,x36.Server,x36.No,x36.Kind,x36.By,x36.Node,x36.Join,y66.1,x36.Name,x36.Tags,x36.Until,x36.Uses,x36.Ready⟩:Ley).Ready⟩:Ley))) else(bi (Lfm y39.2 3) fun y72=>bi (getZ [[[119,101,98],[100,98]],[[]],[[97],[98]]] y72.1) fun x74=>some (y72.2,y21.set y34.1.toNat (⟨x36.At,x36.Server,x36.No,x36.Kind,x36.By,x36.Node,x36.Join,x36.Public,x36.Name,x74,x36.Until,x36.Uses,x36.Ready⟩:Ley)))))))) else(some (q25.1,y21))) fun q31=>some (q31.2,q31.1))
def Lge(n:Int)(low:Int)(high:Int):Option Bool:=
 some ((decide ((low:Int)≤n))&&(decide ((n:Int)≤high)))
def Lgf(s:Str)(v_some:Str):Option Bool:=
 bi (Kqr s v_some) fun y1=>some ((y1:Str)==[])
def Lgg(s:Str):Option Bool:=
 bi (Lge (s.length:Int) 1 40) fun y1=>bi (bif y1 then(bi (subZ s 0 1) fun z6=>bi (Lgf z6 [97,98,99,100,101,102,103,104,105,106,107,108,109,110,111,112,113,114,115,116,117,118,119,120,121,122]) fun y8=>some y8) else(some false)) fun q3=>bi (bif q3 then(bi (Lgf s [97,98,99,100,101,102,103,104,105,106,107,108,109,110,111,112,113,114,115,116,117,118,119,120,121,122,48,49,50,51,52,53,54,55,56,57,45,95]) fun y14=>some y14) else(some false)) fun q11=>some q11
def Lgh(l:List Str):Option Int:=
 bi (rangeM (σ:=Unit) (ρ:=Int) (fun i1 x3 s2=>bi (Lgg x3) fun y12=>bif !y12 then(bi (some 5) fun v=>some (.out v)) else(bi (bif decide (((i1:Int):Int)>0) then(bi (getZ l (wi ((i1:Int) - 1))) fun x21=>some (Op.bytesLess x3 x21||(x3:Str)==x21)) else(some false)) fun q18=>bif q18 then(bi (some 7) fun v=>some (.out v)) else(some (.go ())))) 0 l ()) fun q=>goI q fun a6=>some 0
def Lgi(s:List Str)(v:Str):Option Int:=
 bi (rangeM (σ:=Unit) (ρ:=Int) (fun i1 x3 s2=>bif (v:Str)==x3 then(bi (some (i1:Int)) fun v=>some (.out v)) else(some (.go ()))) 0 s ()) fun q=>goI q fun a6=>some (-1)
def Lgj(s:List Str)(v:Str):Option Bool:=
 bi (Lgi s v) fun y1=>some (decide ((y1:Int)≥0))
def Lgk(n:Int)(low:Int)(high:Int):Option Bool:=
 some ((decide ((low:Int)≤n))&&(decide ((n:Int)≤high)))
def Lgl(d:Lex):Option Int:=
 bif decide (((d.Users.length:Int):Int)>200) then(some 2) else(bi (Lgh d.Users) fun y3=>bif (y3:Int) != 0 then(some y3) else(bif decide (((d.Owners.length:Int):Int)>100) then(some 2) else(bi (rangeM (σ:=Unit) (ρ:=Int) (fun i9 x11 s10=>bi (Lgg x11.Tag) fun y20=>bif !y20 then(bi (some 5) fun v=>some (.out v)) else(bi (bif decide (((i9:Int):Int)>0) then(bi (getZ d.Owners (wi ((i9:Int) - 1))) fun x29=>some (Op.bytesLess x11.Tag x29.Tag||(x11.Tag:Str)==x29.Tag)) else(some false)) fun q26=>bif q26 then(bi (some 7) fun v=>some (.out v)) else(bi (rangeM (σ:=Unit) (ρ:=LS Unit Int) (fun i36 x38 s37=>bi (Lgj d.Users x38) fun y47=>bif !y47 then(bi (bi (some 8) fun v=>some (.out v)) fun v=>some (.out v)) else(bi (bif decide (((i36:Int):Int)>0) then(bi (getZ x11.Users (wi ((i36:Int) - 1))) fun x58=>some (Op.bytesLess x38 x58||(x38:Str)==x58)) else(some false)) fun q55=>bif q55 then(bi (bi (some 7) fun v=>some (.out v)) fun v=>some (.out v)) else(some (.go ())))) 0 x11.Users ()) fun q=>goI q fun a41=>some (.go ())))) 0 d.Owners ()) fun q=>goI q fun a14=>bi (Lgk d.Life 1 345686400) fun y67=>bif !y67 then(some 1) else(some 0))))
def Lgm(v_at:Int):Option Bool:=
 bi (Lge v_at 0 345686399) fun y1=>some y1
def Lgn(kind:Int):Option Str:=
 bi (getZ [[],[98,106,116,117,115,114],[98,106],[66,110,74,112,109],[98,110],[98,110,112],[98,110,109],[98,110,116],[98,110],[98,110]] kind) fun x1=>some x1
def Lgo(s:Str):Option Int:=
 bi (Lgg s) fun y1=>bif !y1 then(some 5) else(some 0)
def Lgp(s:Str):Option Bool:=
 bi (Lgk (s.length:Int) 1 20) fun y1=>bi (bif y1 then(bi (Kqr s [48,49,50,51,52,53,54,55,56,57,97,98,99,100,101,102]) fun y6=>some ((y6:Str)==[])) else(some false)) fun q3=>some q3
def Lgq(s:Ley)(c:Int):Option Int:=
 bi (bi (bif (c:Int)==98 then(some ((c:Int)==98)) else(bif (c:Int)==110 then(some ((c:Int)==110)) else(bif (c:Int)==106 then(some ((c:Int)==106)) else(some ((c:Int)==109))))) fun q4=>bif q4 then(bi (Lgo ((mGet (mSet (mSet (mSet (mSet ([]:List (Int×Str)) 98 s.By) 110 s.Node) 106 s.Join) 109 s.Name) c).getD [])) fun y13=>bi (some y13) fun v=>some (.inr v)) else(bi (bif (c:Int)==66 then(some ((c:Int)==66)) else(some ((c:Int)==74))) fun q18=>bif q18 then(bif !((((mGet (mSet (mSet ([]:List (Int×Str)) 66 s.By) 74 s.Join) c).getD []):Str)==[]) then(bi (Lgo ((mGet (mSet (mSet ([]:List (Int×Str)) 66 s.By) 74 s.Join) c).getD [])) fun y24=>bi (some y24) fun v=>some (.inr v)) else(some (.inl ()))) else(bif (c:Int)==112 then(bi (Lgp s.Public) fun y31=>bif !y31 then(bi (some 5) fun v=>some (.inr v)) else(some (.inl ()))) else(bif (c:Int)==116 then(bif decide (((s.Tags.length:Int):Int)>10) then(bi (some 2) fun v=>some (.inr v)) else(bi (Lgh s.Tags) fun y43=>bi (some y43) fun v=>some (.inr v))) else(bi (bif (c:Int)==117 then(some ((c:Int)==117)) else(some ((c:Int)==115))) fun q48=>bif q48 then(bi (Lgk ((mGet (mSet (mSet ([]:List (Int×Int)) 117 s.Until) 115 s.Uses) c).getD 0) 0 999999999) fun y53=>bif !y53 then(bi (some 1) fun v=>some (.inr v)) else(some (.inl ()))) else(some (.inl ())))))):Option (Unit ⊕ Int)) fun q=>orI q fun a3=>some 0
def Lgr(s:Ley):Option Int:=
 bi (Lgm s.At) fun y1=>bif !y1 then(some 1) else(bi (Lgg s.Server) fun y5=>bif !y5 then(some 5) else(bi (Lgk s.No 1 1000000) fun y9=>bif !y9 then(some 1) else(bi (Lgk s.Kind 1 9) fun y13=>bif !y13 then(some 4) else(bi (Lgn s.Kind) fun y17=>gd (asc y17) (bi (rangeM (σ:=Unit) (ρ:=Int) (fun sn23 x22 s21=>bi (Lgq s (x22.toNat:Int)) fun y63=>bif (y63:Int) != 0 then(bi (some y63) fun v=>some (.out v)) else(some (.go ()))) 0 y17 ()) fun q=>goI q fun s21=>bi (Lgn s.Kind) fun y30=>bi (Krc y30) fun y32=>bi (rangePM (σ:=Unit) (ρ:=Int) (fun x41 s40=>bi (bif !x41.2 then(bi (Kqz y32 x41.1) fun y54=>some (decide ((y54:Int)<0))) else(some false)) fun q51=>bif q51 then(bi (some 3) fun v=>some (.out v)) else(some (.go ()))) (mSet (mSet (mSet (mSet (mSet (mSet (mSet (mSet (mSet ([]:List (Int×Bool)) 98 ((s.By:Str)==[])) 110 ((s.Node:Str)==[])) 106 ((s.Join:Str)==[])) 112 ((s.Public:Str)==[])) 109 ((s.Name:Str)==[])) 116 (((s.Tags.length:Int):Int)==0)) 117 ((s.Until:Int)==0)) 115 ((s.Uses:Int)==0)) 114 (!s.Ready)) ()) fun q=>goI q fun s40=>some 0)))))
def Lgs(x:Ley)(x2:Ley):Option Bool:=
 some (((x.Server:Str)==x2.Server)&&((x.No:Int)==x2.No))
def Lgt(s:List Ley)(f:Ley):Option Int:=
 bi (rangeM (σ:=Unit) (ρ:=Int) (fun i1 x3 s2=>bi (Lgs x3 f) fun y12=>bif y12 then(bi (some (i1:Int)) fun v=>some (.out v)) else(some (.go ()))) 0 s ()) fun q=>goI q fun a6=>some (-1)
def Lgu(s:List Ley)(f:Ley):Option Bool:=
 bi (Lgt s f) fun y1=>some (decide ((y1:Int)≥0))
def Lgv(l:List Ley):Option Int:=
 bif decide (((l.length:Int):Int)>2000) then(some 2) else(bi (rangeM (σ:=Unit) (ρ:=Int) (fun i3 x5 s4=>bi (Lgr x5) fun y14=>bif (y14:Int) != 0 then(bi (some y14) fun v=>some (.out v)) else(bi (bif decide (((i3:Int):Int)>0) then(bi (getZ l (wi ((i3:Int) - 1))) fun x23=>bi (Lfz x23 x5) fun y25=>some (decide ((y25:Int)≥0))) else(some false)) fun q20=>bif q20 then(bi (some 7) fun v=>some (.out v)) else(bi (subZ l 0 (i3:Int)) fun z32=>bi (Lgu z32 x5) fun y34=>bif y34 then(bi (some 6) fun v=>some (.out v)) else(some (.go ()))))) 0 l ()) fun q=>goI q fun a8=>some 0)
def Lgw(vals:List Int):Option Int:=
 bi (rangeM (σ:=Unit) (ρ:=Int) (fun i1 x3 s2=>bif (x3:Int) != 0 then(bi (some x3) fun v=>some (.out v)) else(some (.go ()))) 0 vals ()) fun q=>goI q fun a6=>some 0
def Lgx(k:Nat)(s:Lev)(many:Int):Option (Lez×Lev):=
 bi (Lfs (⟨s.L,s.v_at⟩:Lev)) fun y1=>bi (Lgd k y1.2 many) fun y3=>bi (Lgl y1.1) fun y5=>bi (Lgv y3.1) fun y7=>bi (Lgw [y5,y7]) fun y9=>some ((⟨y1.1,y3.1,y9⟩:Lez),y3.2)
def Lgy(s:Lev):Option (Int×Lev):=
 bi (Lfm s 300) fun y1=>bi (Lfm y1.2 300) fun y3=>bi (Lfo y3.2 [345686399,-1,345686400]) fun y5=>bi (Lfo y5.2 [0,5,20,40,60,80,120,y1.1,y3.1,y5.1]) fun y7=>some (y7.1,y7.2)
def Lgz(s:Lev):Option (Lfa×Lev):=
 bi (Lfo s [0,5,30,100]) fun y1=>bi (Lfo y1.2 [30,100,250,1000,345686400]) fun y3=>bi (Lfp y3.2 20) fun y5=>bi (bif y5.1 then(bi (Lfo y5.2 [-1,10]) fun y10=>bi (Lfo y10.2 [9,345686401]) fun y12=>some (y12.2,(⟨y10.1,y12.1⟩:Lfa))) else(some (y5.2,(⟨y1.1,y3.1⟩:Lfa)))) fun q7=>some (q7.2,q7.1)
def Lha(k:Nat)(s:Str):Option Bool:=
 bi (loopM (σ:=Int) (ρ:=Unit ⊕ Bool) (fun s2=>bif decide ((s2:Int)<(s.length:Int)) then(bi (getZ s s2) fun c12=>bif !(((decide (((c12.toNat:Int):Int)≥97))&&(decide (((c12.toNat:Int):Int)≤122)))||((decide ((s2:Int)>0))&&((((decide (((c12.toNat:Int):Int)≥48))&&(decide (((c12.toNat:Int):Int)≤57)))||(((c12.toNat:Int):Int)==45))||(((c12.toNat:Int):Int)==95)))) then(bi (some false) fun v=>some (.out (.inr v))) else(some (.go (wi (s2+1))))) else(some (.out (.inl ())))) k 0) fun q=>orI q fun a6=>some ((!((s:Str)==[]))&&(decide (((s.length:Int):Int)≤40)))
def Lhb(k:Nat)(l:List Str):Option Int:=
 bi (rangeM (σ:=Unit) (ρ:=Int) (fun i1 x3 s2=>bi (Lha k x3) fun y12=>bif !y12 then(bi (some 5) fun v=>some (.out v)) else(bi (bif decide (((i1:Int):Int)>0) then(bi (getZ l (wi ((i1:Int) - 1))) fun x21=>some (Op.bytesLess x3 x21||(x3:Str)==x21)) else(some false)) fun q18=>bif q18 then(bi (some 7) fun v=>some (.out v)) else(some (.go ())))) 0 l ()) fun q=>goI q fun a6=>some 0
def Lhc(n:Int)(low:Int)(high:Int):Option Bool:=
 some ((decide ((n:Int)<low))||(decide ((n:Int)>high)))
def Lhd(k:Nat)(d:Lex):Option Int:=
 bif decide (((d.Users.length:Int):Int)>200) then(some 2) else(bi (Lhb k d.Users) fun y3=>bif (y3:Int) != 0 then(some y3) else(bif decide (((d.Owners.length:Int):Int)>100) then(some 2) else(bi (rangeM (σ:=Unit) (ρ:=Int) (fun i9 x11 s10=>bi (Lha k x11.Tag) fun y20=>bif !y20 then(bi (some 5) fun v=>some (.out v)) else(bi (bif decide (((i9:Int):Int)>0) then(bi (getZ d.Owners (wi ((i9:Int) - 1))) fun x29=>some (Op.bytesLess x11.Tag x29.Tag||(x11.Tag:Str)==x29.Tag)) else(some false)) fun q26=>bif q26 then(bi (some 7) fun v=>some (.out v)) else(bi (rangeM (σ:=Unit) (ρ:=LS Unit Int) (fun i36 x38 s37=>bi (Lgj d.Users x38) fun y47=>bif !y47 then(bi (bi (some 8) fun v=>some (.out v)) fun v=>some (.out v)) else(bi (bif decide (((i36:Int):Int)>0) then(bi (getZ x11.Users (wi ((i36:Int) - 1))) fun x58=>some (Op.bytesLess x38 x58||(x38:Str)==x58)) else(some false)) fun q55=>bif q55 then(bi (bi (some 7) fun v=>some (.out v)) fun v=>some (.out v)) else(some (.go ())))) 0 x11.Users ()) fun q=>goI q fun a41=>some (.go ())))) 0 d.Owners ()) fun q=>goI q fun a14=>bi (Lhc d.Life 1 345686400) fun y67=>bif y67 then(some 1) else(some 0))))
def Lhe(n:Int):Option Bool:=
 some ((decide ((n:Int)≥0))&&(decide ((n:Int)<345686400)))
def Lhf(kind:Int):Option (List Int):=
 bif (kind:Int)==1 then(some [0,2,5,6,7,8]) else(bif (kind:Int)==2 then(some [0,2]) else(bif (kind:Int)==3 then(some [0,1,2,3,4]) else(bif (kind:Int)==5 then(some [0,1,3]) else(bif (kind:Int)==6 then(some [0,1,4]) else(bif (kind:Int)==7 then(some [0,1,5]) else(some [0,1]))))))
def Lhg(k:Nat)(s:Str)(empty:Bool):Option Int:=
 bi (Lha k s) fun y1=>bif ((!y1)&&(!(empty&&((s:Str)==[])))) then(some 5) else(some 0)
def Lhh(s:Str):Option Bool:=
 bi (bif ((!((s:Str)==[]))&&(decide (((s.length:Int):Int)≤20))) then(bi (Kqr s [48,49,50,51,52,53,54,55,56,57,97,98,99,100,101,102]) fun y4=>some ((y4:Str)==[])) else(some false)) fun q1=>some q1
def Lhi(k:Nat)(l:List Str):Option Int:=
 bif decide (((l.length:Int):Int)>10) then(some 2) else(bi (Lhb k l) fun y3=>some y3)
def Lhj(n:Int):Option Int:=
 bi (Lhc n 0 999999999) fun y1=>bif y1 then(some 1) else(some 0)
def Lhk(k:Nat)(s:Ley)(field:Int):Option Int:=
 bi (bif (field:Int)==0 then(bi (Lhg k s.By ((s.Kind:Int)==3)) fun y5=>bi (some y5) fun v=>some (.inr v)) else(bif (field:Int)==1 then(bi (Lhg k s.Node false) fun y11=>bi (some y11) fun v=>some (.inr v)) else(bif (field:Int)==2 then(bi (Lhg k s.Join ((s.Kind:Int)==3)) fun y17=>bi (some y17) fun v=>some (.inr v)) else(bif (field:Int)==3 then(bi (Lhh s.Public) fun y23=>bif !y23 then(bi (some 5) fun v=>some (.inr v)) else(some (.inl ()))) else(bif (field:Int)==4 then(bi (Lhg k s.Name false) fun y31=>bi (some y31) fun v=>some (.inr v)) else(bif (field:Int)==5 then(bi (Lhi k s.Tags) fun y37=>bi (some y37) fun v=>some (.inr v)) else(bif (field:Int)==6 then(bi (Lhj s.Until) fun y43=>bi (some y43) fun v=>some (.inr v)) else(bif (field:Int)==7 then(bi (Lhj s.Uses) fun y49=>bi (some y49) fun v=>some (.inr v)) else(some (.inl ()))))))))):Option (Unit ⊕ Int)) fun q=>orI q fun a3=>some 0
def Lhl(s:List Int)(v:Int):Option Int:=
 bi (rangeM (σ:=Unit) (ρ:=Int) (fun i1 x3 s2=>bif (v:Int)==x3 then(bi (some (i1:Int)) fun v=>some (.out v)) else(some (.go ()))) 0 s ()) fun q=>goI q fun a6=>some (-1)
def Lhm(s:List Int)(v:Int):Option Bool:=
 bi (Lhl s v) fun y1=>some (decide ((y1:Int)≥0))
def Lhn(s:Ley)(field:Int):Option Bool:=
 bif (field:Int)==0 then(some ((s.By:Str)==[])) else(bif (field:Int)==1 then(some ((s.Node:Str)==[])) else(bif (field:Int)==2 then(some ((s.Join:Str)==[])) else(bif (field:Int)==3 then(some ((s.Public:Str)==[])) else(bif (field:Int)==4 then(some ((s.Name:Str)==[])) else(bif (field:Int)==5 then(some (((s.Tags.length:Int):Int)==0)) else(bif (field:Int)==6 then(some ((s.Until:Int)==0)) else(bif (field:Int)==7 then(some ((s.Uses:Int)==0)) else(some (!s.Ready)))))))))
def Lho(k:Nat)(s:Ley):Option Int:=
 bi (Lhe s.At) fun y1=>bif !y1 then(some 1) else(bi (Lha k s.Server) fun y5=>bif !y5 then(some 5) else(bi (Lhc s.No 1 1000000) fun y9=>bif y9 then(some 1) else(bi (Lhc s.Kind 1 9) fun y13=>bif y13 then(some 4) else(bi (Lhf s.Kind) fun y17=>bi (rangeM (σ:=Unit) (ρ:=Int) (fun i19 x21 s20=>bi (Lhk k s x21) fun y30=>bif (y30:Int) != 0 then(bi (some y30) fun v=>some (.out v)) else(some (.go ()))) 0 y17 ()) fun q=>goI q fun a24=>bi (loopM (σ:=Int) (ρ:=Unit ⊕ Int) (fun s37=>bif decide ((s37:Int)<9) then(bi (Lhm y17 s37) fun y47=>bi (bif !y47 then(bi (Lhn s s37) fun y52=>some (!y52)) else(some false)) fun q49=>bif q49 then(bi (some 3) fun v=>some (.out (.inr v))) else(some (.go (wi (s37+1))))) else(some (.out (.inl ())))) k 0) fun q=>orI q fun a41=>some 0))))
def Lhp(a:Ley)(b:Ley):Option Int:=
 bi (Lfx a.At b.At) fun y1=>bi (Kqy a.Server b.Server) fun y3=>bi (Lfx a.No b.No) fun y5=>bi (Lfy [y1,y3,y5]) fun y7=>some y7
def Lhq(s:Ley):Option Lfb:=
 some (⟨s.Server,s.No⟩:Lfb)
def Lhr(k:Nat)(l:List Ley):Option Int:=
 bif decide (((l.length:Int):Int)>2000) then(some 2) else(bi (rangeM (σ:=List (Lfb×Bool)) (ρ:=Int) (fun i3 x5 s4=>bi (Lho k x5) fun y14=>bif (y14:Int) != 0 then(bi (some y14) fun v=>some (.out v)) else(bi (bif decide (((i3:Int):Int)>0) then(bi (getZ l (wi ((i3:Int) - 1))) fun x23=>bi (Lhp x23 x5) fun y25=>some (decide ((y25:Int)≥0))) else(some false)) fun q20=>bif q20 then(bi (some 7) fun v=>some (.out v)) else(bi (Lhq x5) fun y32=>bif ((mGet s4 y32).getD false) then(bi (some 6) fun v=>some (.out v)) else(bi (Lhq x5) fun y38=>some (.go (mSet s4 y38 true)))))) 0 l ([]:List (Lfb×Bool))) fun q=>goI q fun a8=>some 0)
def Lhs(k:Nat)(d:Lex)(l:List Ley):Option Int:=
 bi (Lhd k d) fun y1=>bif (y1:Int) != 0 then(some y1) else(bi (Lhr k l) fun y5=>some y5)
def Lht(d:Lex):Option Lfe:=
 bi (rangeF (σ:=List (Str×Bool)) (fun i1 x3 s2=>some (mSet s2 x3 true)) 0 d.Users ([]:List (Str×Bool))) fun q4=>some (⟨d,q4,([]:List (Str×Nat)),([]:List (Str×Lfc)),([]:List (Str×(Tl Lfd)))⟩:Lfe)
def Lhu(p:Nat)(v_at:Int)(al:BagT):Option Int:=
 bif (p==0) then(some 0) else(gd (Nat.blt 0 p) (bi (hGet al.2.1 p) fun m5=>bi (bif m5.revoked then(some true) else(gd (Nat.blt 0 p) (bi (hGet al.2.1 p) fun m13=>some (decide ((v_at:Int)≥m13.Join.Until))))) fun q7=>bif q7 then(some 11) else(gd (Nat.blt 0 p) (bi (hGet al.2.1 p) fun m19=>gd (Nat.blt 0 p) (bi (hGet al.2.1 p) fun m23=>bif decide ((m19.used:Int)≥m23.Join.Left) then(some 12) else(some 0))))))
def Lhv(n:Lfe)(v_public:Str):Option Bool:=
 bi (rangePM (σ:=Unit) (ρ:=Bool) (fun x8 s7=>bif (x8.2.Public:Str)==v_public then(bi (some true) fun v=>some (.out v)) else(some (.go ()))) n.there ()) fun q=>goI q fun s7=>some false
def Lhw(s:List Str):Option (List Str):=
 bi (apd ([]:List Str) s) fun y1=>some y1
def Lhx(n:Lfe)(v_at:Int)(user:Str):Option Int:=
 bif (user:Str)==[] then(some 345686400) else(some (if (wi (v_at+n.d.Life))<345686400 then wi (v_at+n.d.Life) else 345686400))
def Lhy(n:Lfe)(v_at:Int)(m:Lfc)(key:Bool)(al:BagT):Option (Lfe×BagT):=
 bi (appT al.1 ((mGet n.story m.Node).getD (1,[])) [(⟨v_at,m,false,key⟩:Lfd)]) fun y1=>some ((⟨n.d,n.users,n.passes,(mSet n.there m.Node m),(mSet n.story m.Node y1.1)⟩:Lfe),(y1.2,al.2.1,al.2.2.1,al.2.2.2.1,al.2.2.2.2.1,al.2.2.2.2.2))
def Lhz(n:Lfe)(s:Ley)(al:BagT):Option (Int×Lfe×BagT):=
 bif ((s.By:Str)==[]:Bool)==((s.Join:Str)==[]) then(some (3,n,al)) else(bi (bif !((s.By:Str)==[]) then(bif !((mGet n.users s.By).getD false) then(some true) else(bif (s.By:Str)==[] then(some (((mGet n.passes s.Join).getD 0)==0)) else(some false))) else(bif (s.By:Str)==[] then(some (((mGet n.passes s.Join).getD 0)==0)) else(some false))) fun q3=>bif q3 then(some (8,n,al)) else(bi (Lhu ((mGet n.passes s.Join).getD 0) s.At al) fun y15=>bif (y15:Int) != 0 then(some (y15,n,al)) else(bi (isNilT ((mGet n.story s.Node).getD (1,[]))) fun b19=>bif !b19 then(some (6,n,al)) else(bi (Lhv n s.Public) fun y23=>bif y23 then(some (13,n,al)) else(bif decide (((n.there.length:Int):Int)≥500) then(some (2,n,al)) else(bi (bif !(((mGet n.passes s.Join).getD 0)==0) then(gd (Nat.blt 0 ((mGet n.passes s.Join).getD 0)) (bi (hGet al.2.1 ((mGet n.passes s.Join).getD 0)) fun m34=>gd (Nat.blt 0 ((mGet n.passes s.Join).getD 0)) (bi (hGet al.2.1 ((mGet n.passes s.Join).getD 0)) fun m38=>gd (Nat.blt 0 ((mGet n.passes s.Join).getD 0)) (bi (hGet (hSet al.2.1 ((mGet n.passes s.Join).getD 0) (⟨m38.Join,m38.revoked,wi (m34.used+1)⟩:Lfg)) ((mGet n.passes s.Join).getD 0)) fun m42=>bi (Lhw m42.Join.Tags) fun y44=>gd (Nat.blt 0 ((mGet n.passes s.Join).getD 0)) (bi (hGet (hSet al.2.1 ((mGet n.passes s.Join).getD 0) (⟨m38.Join,m38.revoked,wi (m34.used+1)⟩:Lfg)) ((mGet n.passes s.Join).getD 0)) fun m48=>bi (bif ((m48.Join.Tags.length:Int):Int)==0 then(gd (Nat.blt 0 ((mGet n.passes s.Join).getD 0)) (bi (hGet (hSet al.2.1 ((mGet n.passes s.Join).getD 0) (⟨m38.Join,m38.revoked,wi (m34.used+1)⟩:Lfg)) ((mGet n.passes s.Join).getD 0)) fun m55=>some m55.Join.By)) else(some s.By)) fun q50=>bi (bif !n.d.Approve then(some true) else(gd (Nat.blt 0 ((mGet n.passes s.Join).getD 0)) (bi (hGet (hSet al.2.1 ((mGet n.passes s.Join).getD 0) (⟨m38.Join,m38.revoked,wi (m34.used+1)⟩:Lfg)) ((mGet n.passes s.Join).getD 0)) fun m64=>some m64.Join.Ready))) fun q58=>some ((al.1,(hSet al.2.1 ((mGet n.passes s.Join).getD 0) (⟨m38.Join,m38.revoked,wi (m34.used+1)⟩:Lfg)),al.2.2.1,al.2.2.2.1,al.2.2.2.2.1,al.2.2.2.2.2),(⟨s.Node,q50,s.Name,s.Public,y44,s.At,0,q58⟩:Lfc))))))) else(some (al,(⟨s.Node,s.By,s.Name,s.Public,[],s.At,0,!n.d.Approve⟩:Lfc)))) fun q29=>bi (Lhx n s.At q29.2.User) fun y67=>bi (Lhy n s.At (⟨q29.2.Node,q29.2.User,q29.2.Name,q29.2.Public,q29.2.Tags,q29.2.Joined,y67,q29.2.Approved⟩:Lfc) true q29.1) fun y69=>some (0,y69.1,y69.2)))))))
def Lia(o:Lew)(x:Str):Option Bool:=
 some ((o.Tag:Str)==x)
def Lic(s:List Lew)(f:Str):Option Int:=
 bi (rangeM (σ:=Unit) (ρ:=Int) (fun i1 x3 s2=>bi (Lia x3 f) fun y12=>bif y12 then(bi (some (i1:Int)) fun v=>some (.out v)) else(some (.go ()))) 0 s ()) fun q=>goI q fun a6=>some (-1)
def Lid(d:Lex)(user:Str)(tag:Str):Option (Bool×Bool):=
 bi (Lic d.Owners tag) fun y1=>bi (bif decide ((y1:Int)≥0) then(bi (getZ d.Owners y1) fun x6=>bi (Lgj x6.Users user) fun y8=>some y8) else(some false)) fun q3=>some (q3,decide ((y1:Int)≥0))
def Lie(n:Lfe)(user:Str)(tags:List Str):Option Int:=
 bi (rangeM (σ:=Unit) (ρ:=Int) (fun i1 x3 s2=>bi (Lid n.d user x3) fun y12=>bif !y12.2 then(bi (some 8) fun v=>some (.out v)) else(bif !y12.1 then(bi (some 16) fun v=>some (.out v)) else(some (.go ())))) 0 tags ()) fun q=>goI q fun a6=>some 0
def Lif(n:Lfe)(s:Ley)(al:BagT):Option (Int×Lfe×BagT):=
 bif !(((mGet n.passes s.Join).getD 0)==0) then(some (6,n,al)) else(bi (Lhc s.Uses 1 1000) fun y3=>bi (bif y3 then(some true) else(bi (Lhc s.Until (wi (s.At+1)) 345686400) fun y9=>some y9)) fun q5=>bif q5 then(some (1,n,al)) else(bi (Lie n s.By s.Tags) fun y13=>bif (y13:Int) != 0 then(some (y13,n,al)) else(bi (Lhw s.Tags) fun y17=>some (0,(⟨n.d,n.users,(mSet n.passes s.Join (al.1.length+1)),n.there,n.story⟩:Lfe),((al.1++[false]),((al.1.length,(⟨(⟨s.Join,s.By,y17,s.Until,s.Uses,s.Ready⟩:Lff),false,0⟩:Lfg)) :: al.2.1),al.2.2.1,al.2.2.2.1,al.2.2.2.2.1,al.2.2.2.2.2)))))
def Lig(n:Lfe)(s:Ley)(al:BagT):Option (Int×BagT):=
 bif (((mGet n.passes s.Join).getD 0)==0) then(some (8,al)) else(gd (Nat.blt 0 ((mGet n.passes s.Join).getD 0)) (bi (hGet al.2.1 ((mGet n.passes s.Join).getD 0)) fun m5=>bif !((m5.Join.By:Str)==s.By) then(some (16,al)) else(gd (Nat.blt 0 ((mGet n.passes s.Join).getD 0)) (bi (hGet al.2.1 ((mGet n.passes s.Join).getD 0)) fun m11=>bif m11.revoked then(some (11,al)) else(gd (Nat.blt 0 ((mGet n.passes s.Join).getD 0)) (bi (hGet al.2.1 ((mGet n.passes s.Join).getD 0)) fun m17=>some (0,(al.1,(hSet al.2.1 ((mGet n.passes s.Join).getD 0) (⟨m17.Join,true,m17.used⟩:Lfg)),al.2.2.1,al.2.2.2.1,al.2.2.2.2.1,al.2.2.2.2.2))))))))
def Lih(t:Str)(x:Lfe)(x2:Str):Option Bool:=
 bi (Lid x.d x2 t) fun y1=>some y1.1
def Lii(s:List Str)(f:Lfe)(f2:Str):Option Int:=
 bi (rangeM (σ:=Unit) (ρ:=Int) (fun i1 x3 s2=>bi (Lih x3 f f2) fun y12=>bif y12 then(bi (some (i1:Int)) fun v=>some (.out v)) else(some (.go ()))) 0 s ()) fun q=>goI q fun a6=>some (-1)
def Lij(s:List Str)(f:Lfe)(f2:Str):Option Bool:=
 bi (Lii s f f2) fun y1=>some (decide ((y1:Int)≥0))
def Lik(n:Lfe)(user:Str)(m:Lfc):Option Bool:=
 bif (user:Str)==m.User then(some true) else(bi (Lij m.Tags n user) fun y3=>some y3)
def Lil(n:Lfe)(s:Ley)(m:Lfc)(al:BagT):Option (Int×Lfe×BagT):=
 bi (bif (s.Kind:Int)==4 then(bif m.Approved then(bi (some (11,n,al)) fun v=>some (.inr v)) else(some (.inl ((⟨m.Node,m.User,m.Name,m.Public,m.Tags,m.Joined,m.Expires,true⟩:Lfc),false)))) else(bif (s.Kind:Int)==5 then(bi (Lhv n s.Public) fun y11=>bif y11 then(bi (some (13,n,al)) fun v=>some (.inr v)) else(bi (Lhx n s.At m.User) fun y17=>some (.inl ((⟨m.Node,m.User,m.Name,s.Public,m.Tags,m.Joined,y17,m.Approved⟩:Lfc),true)))) else(bif (s.Kind:Int)==6 then(bif (m.Name:Str)==s.Name then(bi (some (6,n,al)) fun v=>some (.inr v)) else(some (.inl ((⟨m.Node,m.User,s.Name,m.Public,m.Tags,m.Joined,m.Expires,m.Approved⟩:Lfc),false)))) else(bif (s.Kind:Int)==7 then(bif ((s.Tags.length:Int):Int)==0 then(bi (some (3,n,al)) fun v=>some (.inr v)) else(bi (Lie n s.By s.Tags) fun y31=>bif (y31:Int) != 0 then(bi (some (y31,n,al)) fun v=>some (.inr v)) else(bi (Lhw s.Tags) fun y37=>some (.inl ((⟨m.Node,[],m.Name,m.Public,y37,m.Joined,345686400,m.Approved⟩:Lfc),false))))) else(bif (s.Kind:Int)==8 then(bif decide ((m.Expires:Int)≤s.At) then(bi (some (11,n,al)) fun v=>some (.inr v)) else(some (.inl ((⟨m.Node,m.User,m.Name,m.Public,m.Tags,m.Joined,s.At,m.Approved⟩:Lfc),false)))) else(bi (appT al.1 ((mGet n.story s.Node).getD (1,[])) [(⟨s.At,(⟨[],[],[],[],[],0,0,false⟩:Lfc),true,false⟩:Lfd)]) fun y46=>bi (some (0,(⟨n.d,n.users,n.passes,(mDel n.there s.Node),(mSet n.story s.Node y46.1)⟩:Lfe),(y46.2,al.2.1,al.2.2.1,al.2.2.2.1,al.2.2.2.2.1,al.2.2.2.2.2))) fun v=>some (.inr v)))))):Option ((Lfc×Bool) ⊕ (Int×Lfe×BagT))) fun q=>orI q fun a3=>bi (Lhy n s.At a3.1 a3.2 al) fun y50=>some (0,y50.1,y50.2)
def Lim(n:Lfe)(s:Ley)(al:BagT):Option (Int×Lfe×BagT):=
 bif (s.Kind:Int)==3 then(bi (Lhz n s al) fun y2=>some (y2.1,y2.2.1,y2.2.2)) else(bif !((mGet n.users s.By).getD false) then(some (8,n,al)) else(bif (s.Kind:Int)==1 then(bi (Lif n s al) fun y8=>some (y8.1,y8.2.1,y8.2.2)) else(bif (s.Kind:Int)==2 then(bi (Lig n s al) fun y12=>some (y12.1,n,y12.2)) else(bif !((mGet n.there s.Node).isSome) then(some (8,n,al)) else(bi (bif (s.Kind:Int) != 4 then(bi (Lik n s.By ((mGet n.there s.Node).getD (⟨[],[],[],[],[],0,0,false⟩:Lfc))) fun y20=>some (!y20)) else(some false)) fun q17=>bif q17 then(some (16,n,al)) else(bi (Lil n s ((mGet n.there s.Node).getD (⟨[],[],[],[],[],0,0,false⟩:Lfc)) al) fun y25=>some (y25.1,y25.2.1,y25.2.2)))))))
def Lin(d:Lex)(l:List Ley)(v_at:Int)(al:BagT):Option (Lfe×BagT):=
 bi (Lht d) fun y1=>bi (rangeF (σ:=BagT×(List (Str×Bool))×(List (Str×Nat))×(List (Str×Lfc))×(List (Str×(Tl Lfd)))×(List Str)×(List Lew)×Int×Bool) (fun i3 x5 s4=>bif decide ((x5.At:Int)≤v_at) then(bi (Lim (⟨(⟨s4.2.2.2.2.2.1,s4.2.2.2.2.2.2.1,s4.2.2.2.2.2.2.2.1,s4.2.2.2.2.2.2.2.2⟩:Lex),s4.2.1,s4.2.2.1,s4.2.2.2.1,s4.2.2.2.2.1⟩:Lfe) x5 s4.1) fun y15=>some (y15.2.2,y15.2.1.users,y15.2.1.passes,y15.2.1.there,y15.2.1.story,y15.2.1.d.Users,y15.2.1.d.Owners,y15.2.1.d.Life,y15.2.1.d.Approve)) else(some (s4.1,s4.2.1,s4.2.2.1,s4.2.2.2.1,s4.2.2.2.2.1,s4.2.2.2.2.2.1,s4.2.2.2.2.2.2.1,s4.2.2.2.2.2.2.2.1,s4.2.2.2.2.2.2.2.2))) 0 l (al,y1.users,y1.passes,y1.there,y1.story,y1.d.Users,y1.d.Owners,y1.d.Life,y1.d.Approve)) fun q6=>some ((⟨(⟨q6.2.2.2.2.2.1,q6.2.2.2.2.2.2.1,q6.2.2.2.2.2.2.2.1,q6.2.2.2.2.2.2.2.2⟩:Lex),q6.2.1,q6.2.2.1,q6.2.2.2.1,q6.2.2.2.2.1⟩:Lfe),q6.1)
def Lio(k:Nat)(d:Lex)(l:List Ley)(moment:Int)(al:BagT):Option ((Option Lfe)×Int×BagT):=
 bi (Lhs k d l) fun y1=>bif (y1:Int) != 0 then(some (none,y1,al)) else(bi (Lhe moment) fun y5=>bif !y5 then(some (none,1,al)) else(bi (Lin d l moment al) fun y9=>some (some y9.1,0,y9.2)))
def Lip(m:Lfc):Option Lfc:=
 bi (Lhw m.Tags) fun y1=>some (⟨m.Node,m.User,m.Name,m.Public,y1,m.Joined,m.Expires,m.Approved⟩:Lfc)
def Liq(n:Lfe):Option (List Lfc):=
 gd ((decide (n.there.length≤4294967296))&&n.there.all (fun e=>decide (e.1.length≤4294967296))) (bi (rangeF (σ:=List Lfc) (fun i3 x5 s4=>bi (Lip ((mGet n.there x5).getD (⟨[],[],[],[],[],0,0,false⟩:Lfc))) fun y14=>bi (apd s4 [y14]) fun y16=>some y16) 0 (sortK n.there) ([]:List Lfc)) fun q6=>some q6)
def Lir(m:Lfc)(x:Int):Option Bool:=
 some ((!m.Approved)||(decide ((x:Int)≥m.Expires)))
def Lis(s:List Lfc)(f:Int):Option Int:=
 bi (gd (decide ((s.length:Int)≤9223372036854775807)) (rangeI (σ:=Unit) (ρ:=Int) (fun i1 s2=>bi (getZ s (i1:Int)) fun x13=>bi (Lir x13 f) fun y16=>bif y16 then(bi (some (i1:Int)) fun v=>some (.out v)) else(some (.go ()))) (s.length:Int) ())) fun q=>goI q fun a6=>some (-1)
def Liu(k:Nat)(s:List Lfc)(f:Int):Option (List Lfc):=
 bi (Lis s f) fun y1=>bif (y1:Int)==(-1) then(some s) else(bi (loopM (σ:=(List Lfc)×Int×Int) (ρ:=(List Lfc)×Int) (fun s6=>bif decide ((s6.2.2:Int)<(s6.1.length:Int)) then(bi (getZ s6.1 s6.2.2) fun x16=>bi (Lir x16 f) fun y19=>bif !y19 then(bi (getZ s6.1 s6.2.1) fun x22=>some (.go (s6.1.set s6.2.1.toNat x16,wi (s6.2.1+1),wi (s6.2.2+1)))) else(some (.go (s6.1,s6.2.1,wi (s6.2.2+1))))) else(some (.out (s6.1,s6.2.1)))) k (s,y1,wi (y1+1))) fun q8=>bi (subZ q8.1 q8.2 (q8.1.length:Int)) fun z27=>some (q8.1.take q8.2.toNat))
def Liv(k:Nat)(n:Lfe)(moment:Int):Option (List Lfc):=
 bi (Liq n) fun y1=>bi (Liu k y1 moment) fun y3=>some y3
def Liw(l:List Lfc):Option (List Str):=
 bi (rangeF (σ:=List Str) (fun i1 x3 s2=>bi (apd s2 [x3.Node]) fun y12=>some y12) 0 l ([]:List Str)) fun q4=>some q4
def Lix(k:Nat)(d:Lex)(l:List Ley)(moment:Int)(al:BagT):Option ((List Str)×Int×BagT):=
 bi (Lio k d l moment al) fun y1=>match y1 with | (none,z4,z5)=>(bif (z4:Int) != 0 then(some ([],z4,z5)) else none) | (some z3,z4,z5)=>(bif (z4:Int) != 0 then(some ([],z4,z5)) else(bi (Liv k z3 moment) fun y10=>bi (Liw y10) fun y12=>some (y12,0,z5)))
def Liy(m:Lfc)(x:Int)(x2:Int):Option Bool:=
 some (decide ((m.Expires:Int)>(wi (x+x2))))
def Liz(s:List Lfc)(f:Int)(f2:Int):Option Int:=
 bi (gd (decide ((s.length:Int)≤9223372036854775807)) (rangeI (σ:=Unit) (ρ:=Int) (fun i1 s2=>bi (getZ s (i1:Int)) fun x13=>bi (Liy x13 f f2) fun y16=>bif y16 then(bi (some (i1:Int)) fun v=>some (.out v)) else(some (.go ()))) (s.length:Int) ())) fun q=>goI q fun a6=>some (-1)
def Lja(k:Nat)(s:List Lfc)(f:Int)(f2:Int):Option (List Lfc):=
 bi (Liz s f f2) fun y1=>bif (y1:Int)==(-1) then(some s) else(bi (loopM (σ:=(List Lfc)×Int×Int) (ρ:=(List Lfc)×Int) (fun s6=>bif decide ((s6.2.2:Int)<(s6.1.length:Int)) then(bi (getZ s6.1 s6.2.2) fun x16=>bi (Liy x16 f f2) fun y19=>bif !y19 then(bi (getZ s6.1 s6.2.1) fun x22=>some (.go (s6.1.set s6.2.1.toNat x16,wi (s6.2.1+1),wi (s6.2.2+1)))) else(some (.go (s6.1,s6.2.1,wi (s6.2.2+1))))) else(some (.out (s6.1,s6.2.1)))) k (s,y1,wi (y1+1))) fun q8=>bi (subZ q8.1 q8.2 (q8.1.length:Int)) fun z27=>some (q8.1.take q8.2.toNat))
def Ljb(a:Lfc)(b:Lfc):Option Int:=
 bi (Lfx a.Expires b.Expires) fun y1=>some y1
def Ljc(k:Nat)(data:List Lfc)(a:Int)(b:Int):Option (List Lfc):=
 bi (loopM (σ:=(List Lfc)×Int) (ρ:=List Lfc) (fun s2=>bif decide ((s2.2:Int)<b) then(bi (loopM (σ:=(List Lfc)×Int) (ρ:=List Lfc) (fun s13=>bi (bif decide ((s13.2:Int)>a) then(bi (getZ s13.1 s13.2) fun x25=>bi (getZ s13.1 (wi (s13.2 - 1))) fun x28=>bi (Ljb x25 x28) fun y31=>some (decide ((y31:Int)<0))) else(some false)) fun q22=>bif q22 then(bi (getZ s13.1 (wi (s13.2 - 1))) fun x35=>bi (getZ s13.1 s13.2) fun x38=>bi (getZ s13.1 s13.2) fun x41=>bi (getZ s13.1 (wi (s13.2 - 1))) fun x44=>bi (getZ (s13.1.set s13.2.toNat x35) (((wi (s13.2 - 1)).toNat:Nat):Int)) fun x47=>some (.go ((s13.1.set s13.2.toNat x35).set ((wi (s13.2 - 1)).toNat) x38,wi (s13.2 - 1)))) else(some (.out s13.1))) k (s2.1,s2.2)) fun q15=>some (.go (q15,wi (s2.2+1)))) else(some (.out s2.1))) k (data,wi (a+1))) fun q4=>some q4
def Ljd(k:Nat)(data:List Lfc)(n:Int):Option (List Lfc):=
 bi (loopM (σ:=(List Lfc)×Int×Int) (ρ:=(List Lfc)×Int) (fun s2=>bif decide ((s2.2.2:Int)≤n) then(bi (Ljc k s2.1 s2.2.1 s2.2.2) fun y12=>gd (decide (y12.length=s2.1.length)) (some (.go (y12,s2.2.2,wi (s2.2.2+20))))) else(some (.out (s2.1,s2.2.1)))) k (data,0,20)) fun q4=>bi (Ljc k q4.1 q4.2 n) fun y17=>gd (decide (y17.length=q4.1.length)) (bi (loopM (σ:=Int) (ρ:=Unit) (fun s22=>bif decide ((s22:Int)<n) then(bi (loopM (σ:=Unit) (ρ:=Unit) (fun s33=>bif decide ((wi (2 * s22):Int)≤n) then none else(some (.out ()))) k ()) fun q35=>bif decide ((wi (0+s22):Int)<n) then none else(some (.go (wi (s22 * 2))))) else(some (.out ()))) k 20) fun q24=>some y17)
def Lje(k:Nat)(x:List Lfc):Option (List Lfc):=
 bi (Ljd k x (x.length:Int)) fun y1=>some y1
def Ljf(k:Nat)(d:Lex)(l:List Ley)(moment:Int)(within:Int)(al:BagT):Option ((List Str)×Int×BagT):=
 bi (Lio k d l moment al) fun y1=>match y1 with | (none,z4,z5)=>(bif (z4:Int) != 0 then(some ([],z4,z5)) else(bi (Lhc within 0 345686400) fun y8=>bif y8 then(some ([],1,z5)) else none)) | (some z3,z4,z5)=>(bif (z4:Int) != 0 then(some ([],z4,z5)) else(bi (Lhc within 0 345686400) fun y14=>bif y14 then(some ([],1,z5)) else(bi (Liv k z3 moment) fun y18=>bi (Lja k y18 moment within) fun y20=>bi (Lje k y20) fun y22=>gd (decide (y22.length=y20.length)) (bi (Liw y22) fun y26=>some (y26,0,z5)))))
def Ljg(d:Lex)(l:List Ley)(al:BagT):Option (Lfe×BagT):=
 bi (Lin d l 345686400 al) fun y1=>some (y1.1,y1.2)
def Ljh(n:Lfe)(node:Str):Option (List Lfa):=
 bi (rangeF (σ:=List Lfa) (fun i1 x3 s2=>bi (bif decide ((wi ((i1:Int)+1):Int)<((((mGet n.story node).getD (1,[])).2).length:Int)) then(bi (getZ (((mGet n.story node).getD (1,[])).2) (wi ((i1:Int)+1))) fun x15=>some x15.v_at) else(some 345686400)) fun q12=>bif (x3.gone||(!x3.is.Approved)) then(some s2) else(bif decide (((if x3.is.Expires<q12 then x3.is.Expires else q12):Int)≤x3.v_at) then(some s2) else(bi (bif decide ((wi ((s2.length:Int) - 1):Int)≥0) then(bi (getZ s2 (wi ((s2.length:Int) - 1))) fun x25=>some ((x25.To:Int)==x3.v_at)) else(some false)) fun q22=>bif q22 then(bi (getZ s2 (wi ((s2.length:Int) - 1))) fun x30=>some (s2.set ((wi ((s2.length:Int) - 1)).toNat) (⟨x30.From,(if x3.is.Expires<q12 then x3.is.Expires else q12)⟩:Lfa))) else(bi (apd s2 [(⟨x3.v_at,(if x3.is.Expires<q12 then x3.is.Expires else q12)⟩:Lfa)]) fun y34=>some y34)))) 0 (((mGet n.story node).getD (1,[])).2) ([]:List Lfa)) fun q4=>some q4
def Lji(k:Nat)(d:Lex)(l:List Ley)(moment:Int)(al:BagT):Option (Int×Bool×Int×BagT):=
 bi (Lhs k d l) fun y1=>bif (y1:Int) != 0 then(some (0,false,y1,al)) else(bi (Lhe moment) fun y5=>bif !y5 then(some (0,false,1,al)) else(bi (Ljg d l al) fun y9=>bi (rangeP (σ:=Int×Bool) (fun x18 s17=>bi (Ljh y9.1 x18.1) fun y30=>bi (rangeF (σ:=Int×Bool) (fun i32 x34 s33=>bi (loopM (σ:=Int×Bool×Int) (ρ:=Int×Bool) (fun s44=>bif decide ((s44.2.2:Int)<2) then(bi (getZ ([x34.From,x34.To]:List Int) s44.2.2) fun x54=>bif ((decide ((x54:Int)>moment))&&(decide ((x54:Int)<s44.1))) then(some (.go (x54,true,wi (s44.2.2+1)))) else(some (.go (s44.1,s44.2.1,wi (s44.2.2+1))))) else(some (.out (s44.1,s44.2.1)))) k (s33.1,s33.2,0)) fun q46=>some (q46.1,q46.2)) 0 y30 (s17.1,s17.2)) fun q35=>some (q35.1,q35.2)) y9.1.story (345686400,false)) fun q22=>bif !q22.2 then(some (0,false,0,y9.2)) else(some (q22.1,true,0,y9.2))))
def Ljj(k:Nat)(d:Lex)(l:List Ley)(node:Str)(w:Lfa)(al:BagT):Option (Int×Int×BagT):=
 bi (Lhs k d l) fun y1=>bif (y1:Int) != 0 then(some (0,y1,al)) else(bi (Lha k node) fun y5=>bif !y5 then(some (0,5,al)) else(bi (Lhc w.From 0 w.To) fun y9=>bif (y9||(decide ((w.To:Int)>345686400))) then(some (0,1,al)) else(bi (Ljg d l al) fun y13=>bi (Ljh y13.1 node) fun y15=>bi (rangeF (σ:=Int) (fun i17 x19 s18=>some (wi (s18+(if (wi ((if w.To<x19.To then w.To else x19.To) - (if w.From>x19.From then w.From else x19.From)))>0 then wi ((if w.To<x19.To then w.To else x19.To) - (if w.From>x19.From then w.From else x19.From)) else 0)))) 0 y15 0) fun q20=>some (q20,0,y13.2))))
def Ljk(v_at:Int):Option Int:=
 bi (Lgm v_at) fun y1=>bif !y1 then(some 1) else(some 0)
def Ljl(is:Bool)(e:Int):Option Int:=
 bif is then(some e) else(some 0)
def Ljm(s:Str):Option Int:=
 bi (Lgo s) fun y1=>some y1
def Ljn(w:Lfa):Option Int:=
 bif (((decide ((w.From:Int)<0))||(decide ((w.From:Int)>w.To)))||(decide ((w.To:Int)>345686400))) then(some 1) else(some 0)
def Ljo(d:Lex):Option Lfh:=
 some (⟨d,([]:List (Str×Nat)),([]:List (Str×Nat)),([]:List (Str×Bool)),([]:List (Str×Vl))⟩:Lfh)
def Ljp(d:Lex)(tag:Str):Option ((List Str)×Bool):=
 bi (rangeM (σ:=Unit) (ρ:=(List Str)×Bool) (fun i1 x3 s2=>bif (x3.Tag:Str)==tag then(bi (some (x3.Users,true)) fun v=>some (.out v)) else(some (.go ()))) 0 d.Owners ()) fun q=>goI q fun a6=>some ([],false)
def Ljq(d:Lex)(user:Str)(tags:List Str):Option Int:=
 bi (rangeM (σ:=Unit) (ρ:=Int) (fun i1 x3 s2=>bi (Ljp d x3) fun y12=>bif !y12.2 then(bi (some 8) fun v=>some (.out v)) else(bi (Lgj y12.1 user) fun y18=>bif !y18 then(bi (some 16) fun v=>some (.out v)) else(some (.go ())))) 0 tags ()) fun q=>goI q fun a6=>some 0
def Ljr(v_h:Lfh)(s:Ley)(al:BagT):Option (Int×Lfh×BagT):=
 bi (Lgj v_h.d.Users s.By) fun y1=>bif !y1 then(some (8,v_h,al)) else(bif (((s.Kind:Int)==2)&&(((mGet v_h.keys s.Join).getD 0)==0)) then(some (8,v_h,al)) else(bi (bif (s.Kind:Int)==2 then(gd (Nat.blt 0 ((mGet v_h.keys s.Join).getD 0)) (bi (hGet al.2.2.2.2.1 ((mGet v_h.keys s.Join).getD 0)) fun m12=>some (!((m12.Join.By:Str)==s.By)))) else(some false)) fun q7=>bif q7 then(some (16,v_h,al)) else(bi (bif (s.Kind:Int)==2 then(gd (Nat.blt 0 ((mGet v_h.keys s.Join).getD 0)) (bi (hGet al.2.2.2.2.1 ((mGet v_h.keys s.Join).getD 0)) fun m22=>some m22.revoked)) else(some false)) fun q17=>bif q17 then(some (11,v_h,al)) else(bif (s.Kind:Int)==2 then(gd (Nat.blt 0 ((mGet v_h.keys s.Join).getD 0)) (bi (hGet al.2.2.2.2.1 ((mGet v_h.keys s.Join).getD 0)) fun m30=>some (0,v_h,(al.1,al.2.1,al.2.2.1,al.2.2.2.1,(hSet al.2.2.2.2.1 ((mGet v_h.keys s.Join).getD 0) (⟨m30.Join,true,m30.used⟩:Lfj)),al.2.2.2.2.2)))) else(bif !(((mGet v_h.keys s.Join).getD 0)==0) then(some (6,v_h,al)) else(bi (Lgk s.Uses 1 1000) fun y35=>bif (((!y35)||(decide ((s.Until:Int)≤s.At)))||(decide ((s.Until:Int)>345686400))) then(some (1,v_h,al)) else(bi (Ljq v_h.d s.By s.Tags) fun y39=>bif (y39:Int) != 0 then(some (y39,v_h,al)) else(bi (Lhw s.Tags) fun y43=>some (0,(⟨v_h.d,(mSet v_h.keys s.Join (al.1.length+1)),v_h.nodes,v_h.ever,v_h.History⟩:Lfh),((al.1++[false]),al.2.1,al.2.2.1,al.2.2.2.1,((al.1.length,(⟨(⟨s.Join,s.By,y43,s.Until,s.Uses,s.Ready⟩:Lff),false,0⟩:Lfj)) :: al.2.2.2.2.1),al.2.2.2.2.2))))))))))
def Ljs(v_h:Lfh)(v_public:Str)(al:BagT):Option Bool:=
 bi (rangePM (σ:=Unit) (ρ:=Bool) (fun x8 s7=>gd (Nat.blt 0 x8.2) (bi (hGet al.2.2.2.1 x8.2) fun m20=>bif (m20.Public:Str)==v_public then(bi (some true) fun v=>some (.out v)) else(some (.go ())))) v_h.nodes ()) fun q=>goI q fun s7=>some false
def Ljt(v_h:Lfh)(s:Ley)(al:BagT):Option (Int×Lfh×BagT):=
 bif ((s.By:Str)==[]:Bool)==((s.Join:Str)==[]) then(some (3,v_h,al)) else(bi (bif !((s.By:Str)==[]) then(bi (Lgj v_h.d.Users s.By) fun y6=>bif !y6 then(some true) else(bif !((s.Join:Str)==[]) then(some (((mGet v_h.keys s.Join).getD 0)==0)) else(some false))) else(bif !((s.Join:Str)==[]) then(some (((mGet v_h.keys s.Join).getD 0)==0)) else(some false))) fun q3=>bif q3 then(some (8,v_h,al)) else(bi (bif !(((mGet v_h.keys s.Join).getD 0)==0) then(gd (Nat.blt 0 ((mGet v_h.keys s.Join).getD 0)) (bi (hGet al.2.2.2.2.1 ((mGet v_h.keys s.Join).getD 0)) fun m22=>bif m22.revoked then(some true) else(gd (Nat.blt 0 ((mGet v_h.keys s.Join).getD 0)) (bi (hGet al.2.2.2.2.1 ((mGet v_h.keys s.Join).getD 0)) fun m28=>some (decide ((s.At:Int)≥m28.Join.Until)))))) else(some false)) fun q17=>bif q17 then(some (11,v_h,al)) else(bi (bif !(((mGet v_h.keys s.Join).getD 0)==0) then(gd (Nat.blt 0 ((mGet v_h.keys s.Join).getD 0)) (bi (hGet al.2.2.2.2.1 ((mGet v_h.keys s.Join).getD 0)) fun m38=>gd (Nat.blt 0 ((mGet v_h.keys s.Join).getD 0)) (bi (hGet al.2.2.2.2.1 ((mGet v_h.keys s.Join).getD 0)) fun m42=>some (decide ((m38.used:Int)≥m42.Join.Left))))) else(some false)) fun q33=>bif q33 then(some (12,v_h,al)) else(bif ((mGet v_h.ever s.Node).getD false) then(some (6,v_h,al)) else(bi (Ljs v_h s.Public al) fun y49=>bif y49 then(some (13,v_h,al)) else(bif decide (((v_h.nodes.length:Int):Int)≥500) then(some (2,v_h,al)) else(bi (bif !(((mGet v_h.keys s.Join).getD 0)==0) then(gd (Nat.blt 0 ((mGet v_h.keys s.Join).getD 0)) (bi (hGet al.2.2.2.2.1 ((mGet v_h.keys s.Join).getD 0)) fun m60=>gd (Nat.blt 0 ((mGet v_h.keys s.Join).getD 0)) (bi (hGet al.2.2.2.2.1 ((mGet v_h.keys s.Join).getD 0)) fun m64=>bi (bif !v_h.d.Approve then(some true) else(gd (Nat.blt 0 ((mGet v_h.keys s.Join).getD 0)) (bi (hGet (hSet al.2.2.2.2.1 ((mGet v_h.keys s.Join).getD 0) (⟨m64.Join,m64.revoked,wi (m60.used+1)⟩:Lfj)) ((mGet v_h.keys s.Join).getD 0)) fun m72=>some m72.Join.Ready))) fun q66=>gd (Nat.blt 0 ((mGet v_h.keys s.Join).getD 0)) (bi (hGet (hSet al.2.2.2.2.1 ((mGet v_h.keys s.Join).getD 0) (⟨m64.Join,m64.revoked,wi (m60.used+1)⟩:Lfj)) ((mGet v_h.keys s.Join).getD 0)) fun m76=>gd (Nat.blt 0 ((mGet v_h.keys s.Join).getD 0)) (bi (hGet (hSet al.2.2.2.2.1 ((mGet v_h.keys s.Join).getD 0) (⟨m64.Join,m64.revoked,wi (m60.used+1)⟩:Lfj)) ((mGet v_h.keys s.Join).getD 0)) fun m80=>bif decide (((m80.Join.Tags.length:Int):Int)>0) then(gd (Nat.blt 0 ((mGet v_h.keys s.Join).getD 0)) (bi (hGet (hSet al.2.2.2.2.1 ((mGet v_h.keys s.Join).getD 0) (⟨m64.Join,m64.revoked,wi (m60.used+1)⟩:Lfj)) ((mGet v_h.keys s.Join).getD 0)) fun m85=>bi (Lhw m85.Join.Tags) fun y87=>some ((al.1,al.2.1,al.2.2.1,al.2.2.2.1,(hSet al.2.2.2.2.1 ((mGet v_h.keys s.Join).getD 0) (⟨m64.Join,m64.revoked,wi (m60.used+1)⟩:Lfj)),al.2.2.2.2.2),(⟨s.Node,[],s.Name,s.Public,y87,s.At,345686400,q66⟩:Lfc)))) else(some ((al.1,al.2.1,al.2.2.1,al.2.2.2.1,(hSet al.2.2.2.2.1 ((mGet v_h.keys s.Join).getD 0) (⟨m64.Join,m64.revoked,wi (m60.used+1)⟩:Lfj)),al.2.2.2.2.2),(⟨s.Node,m76.Join.By,s.Name,s.Public,[],s.At,(if 345686400<(wi (s.At+v_h.d.Life)) then 345686400 else wi (s.At+v_h.d.Life)),q66⟩:Lfc)))))))) else(some (al,(⟨s.Node,s.By,s.Name,s.Public,[],s.At,(if 345686400<(wi (s.At+v_h.d.Life)) then 345686400 else wi (s.At+v_h.d.Life)),!v_h.d.Approve⟩:Lfc)))) fun q55=>some (0,(⟨v_h.d,v_h.keys,(mSet v_h.nodes s.Node (q55.1.1.length+1)),(mSet v_h.ever s.Node true),(mSet v_h.History s.Node ((q55.1.1++[false]).length+1,[(⟨s.Public,s.At,345686400⟩:Lfk)].length))⟩:Lfh),(((q55.1.1++[false])++[true]),q55.1.2.1,(((q55.1.1++[false]).length,[(⟨s.Public,s.At,345686400⟩:Lfk)]) :: q55.1.2.2.1),((q55.1.1.length,q55.2) :: q55.1.2.2.2.1),q55.1.2.2.2.2.1,q55.1.2.2.2.2.2)))))))))
def Lju(t:Str)(x:Lex)(x2:Str):Option Bool:=
 bi (Ljp x t) fun y1=>bi (Lgj y1.1 x2) fun y3=>some y3
def Ljv(s:List Str)(f:Lex)(f2:Str):Option Int:=
 bi (rangeM (σ:=Unit) (ρ:=Int) (fun i1 x3 s2=>bi (Lju x3 f f2) fun y12=>bif y12 then(bi (some (i1:Int)) fun v=>some (.out v)) else(some (.go ()))) 0 s ()) fun q=>goI q fun a6=>some (-1)
def Ljw(s:List Str)(f:Lex)(f2:Str):Option Bool:=
 bi (Ljv s f f2) fun y1=>some (decide ((y1:Int)≥0))
def Ljx(d:Lex)(user:Str)(m:Lfc):Option Bool:=
 bi (bif (m.User:Str)==user then(some true) else(bi (Ljw m.Tags d user) fun y5=>some y5)) fun q1=>some q1
def Ljy(v_h:Lfh)(s:Ley)(m:Nat)(al:BagT):Option (Int×Lfh×BagT):=
 bi (bif (s.Kind:Int)==5 then(bi (Ljs v_h s.Public al) fun y5=>bif y5 then(bi (some (13,v_h,al)) fun v=>some (.inr v)) else(gd (Nat.blt 0 m) (bi (hGet al.2.2.2.1 m) fun m13=>gd (Nat.blt 0 m) (bi (hGet (hSet al.2.2.2.1 m (⟨m13.Node,m13.User,m13.Name,s.Public,m13.Tags,m13.Joined,m13.Expires,m13.Approved⟩:Lfc)) m) fun m17=>gd (Nat.blt 0 m) (bi (hGet (hSet (hSet al.2.2.2.1 m (⟨m13.Node,m13.User,m13.Name,s.Public,m13.Tags,m13.Joined,m13.Expires,m13.Approved⟩:Lfc)) m (⟨m17.Node,m17.User,m17.Name,m17.Public,m17.Tags,m17.Joined,345686400,m17.Approved⟩:Lfc)) m) fun m21=>bi (bif !((m21.User:Str)==[]) then(gd (Nat.blt 0 m) (bi (hGet (hSet (hSet al.2.2.2.1 m (⟨m13.Node,m13.User,m13.Name,s.Public,m13.Tags,m13.Joined,m13.Expires,m13.Approved⟩:Lfc)) m (⟨m17.Node,m17.User,m17.Name,m17.Public,m17.Tags,m17.Joined,345686400,m17.Approved⟩:Lfc)) m) fun m28=>some (al.1,al.2.1,al.2.2.1,(hSet (hSet (hSet al.2.2.2.1 m (⟨m13.Node,m13.User,m13.Name,s.Public,m13.Tags,m13.Joined,m13.Expires,m13.Approved⟩:Lfc)) m (⟨m17.Node,m17.User,m17.Name,m17.Public,m17.Tags,m17.Joined,345686400,m17.Approved⟩:Lfc)) m (⟨m28.Node,m28.User,m28.Name,m28.Public,m28.Tags,m28.Joined,(if 345686400<(wi (s.At+v_h.d.Life)) then 345686400 else wi (s.At+v_h.d.Life)),m28.Approved⟩:Lfc)),al.2.2.2.2.1,al.2.2.2.2.2))) else(some (al.1,al.2.1,al.2.2.1,(hSet (hSet al.2.2.2.1 m (⟨m13.Node,m13.User,m13.Name,s.Public,m13.Tags,m13.Joined,m13.Expires,m13.Approved⟩:Lfc)) m (⟨m17.Node,m17.User,m17.Name,m17.Public,m17.Tags,m17.Joined,345686400,m17.Approved⟩:Lfc)),al.2.2.2.2.1,al.2.2.2.2.2))) fun q23=>gd (Nat.blt 0 ((mGet v_h.History s.Node).getD (0,0)).1) (gd (decide ((0:Int)≤(wi (((((mGet v_h.History s.Node).getD (0,0)).2:Nat):Int) - 1)))&&Nat.blt (wi (((((mGet v_h.History s.Node).getD (0,0)).2:Nat):Int) - 1)).toNat ((mGet v_h.History s.Node).getD (0,0)).2) (bi (hGet q23.2.2.1 (((mGet v_h.History s.Node).getD (0,0)).1)) fun m35=>bi (getZ m35 (wi (((((mGet v_h.History s.Node).getD (0,0)).2:Nat):Int) - 1))) fun x37=>bi (appV q23.1 (hSet q23.2.2.1 (((mGet v_h.History s.Node).getD (0,0)).1) (m35.set (wi (((((mGet v_h.History s.Node).getD (0,0)).2:Nat):Int) - 1)).toNat (⟨x37.Public,x37.From,s.At⟩:Lfk))) ((mGet v_h.History s.Node).getD (0,0)) [(⟨s.Public,s.At,345686400⟩:Lfk)]) fun y40=>some (.inl (v_h.nodes,(mSet v_h.History s.Node y40.1),(y40.2.1,q23.2.1,y40.2.2,q23.2.2.2.1,q23.2.2.2.2.1,q23.2.2.2.2.2)))))))))) else(bif (s.Kind:Int)==6 then(gd (Nat.blt 0 m) (bi (hGet al.2.2.2.1 m) fun m46=>bif (m46.Name:Str)==s.Name then(bi (some (6,v_h,al)) fun v=>some (.inr v)) else(gd (Nat.blt 0 m) (bi (hGet al.2.2.2.1 m) fun m54=>some (.inl (v_h.nodes,v_h.History,(al.1,al.2.1,al.2.2.1,(hSet al.2.2.2.1 m (⟨m54.Node,m54.User,s.Name,m54.Public,m54.Tags,m54.Joined,m54.Expires,m54.Approved⟩:Lfc)),al.2.2.2.2.1,al.2.2.2.2.2))))))) else(bif (s.Kind:Int)==7 then(bif ((s.Tags.length:Int):Int)==0 then(bi (some (3,v_h,al)) fun v=>some (.inr v)) else(bi (Ljq v_h.d s.By s.Tags) fun y62=>bif (y62:Int) != 0 then(bi (some (y62,v_h,al)) fun v=>some (.inr v)) else(bi (Lhw s.Tags) fun y68=>gd (Nat.blt 0 m) (bi (hGet al.2.2.2.1 m) fun m72=>gd (Nat.blt 0 m) (bi (hGet (hSet al.2.2.2.1 m (⟨m72.Node,[],m72.Name,m72.Public,m72.Tags,m72.Joined,m72.Expires,m72.Approved⟩:Lfc)) m) fun m76=>gd (Nat.blt 0 m) (bi (hGet (hSet (hSet al.2.2.2.1 m (⟨m72.Node,[],m72.Name,m72.Public,m72.Tags,m72.Joined,m72.Expires,m72.Approved⟩:Lfc)) m (⟨m76.Node,m76.User,m76.Name,m76.Public,y68,m76.Joined,m76.Expires,m76.Approved⟩:Lfc)) m) fun m80=>some (.inl (v_h.nodes,v_h.History,(al.1,al.2.1,al.2.2.1,(hSet (hSet (hSet al.2.2.2.1 m (⟨m72.Node,[],m72.Name,m72.Public,m72.Tags,m72.Joined,m72.Expires,m72.Approved⟩:Lfc)) m (⟨m76.Node,m76.User,m76.Name,m76.Public,y68,m76.Joined,m76.Expires,m76.Approved⟩:Lfc)) m (⟨m80.Node,m80.User,m80.Name,m80.Public,m80.Tags,m80.Joined,345686400,m80.Approved⟩:Lfc)),al.2.2.2.2.1,al.2.2.2.2.2))))))))) else(bif (s.Kind:Int)==8 then(gd (Nat.blt 0 m) (bi (hGet al.2.2.2.1 m) fun m86=>bif decide ((m86.Expires:Int)≤s.At) then(bi (some (11,v_h,al)) fun v=>some (.inr v)) else(gd (Nat.blt 0 m) (bi (hGet al.2.2.2.1 m) fun m94=>some (.inl (v_h.nodes,v_h.History,(al.1,al.2.1,al.2.2.1,(hSet al.2.2.2.1 m (⟨m94.Node,m94.User,m94.Name,m94.Public,m94.Tags,m94.Joined,s.At,m94.Approved⟩:Lfc)),al.2.2.2.2.1,al.2.2.2.2.2))))))) else(gd (Nat.blt 0 ((mGet v_h.History s.Node).getD (0,0)).1) (gd (decide ((0:Int)≤(wi (((((mGet v_h.History s.Node).getD (0,0)).2:Nat):Int) - 1)))&&Nat.blt (wi (((((mGet v_h.History s.Node).getD (0,0)).2:Nat):Int) - 1)).toNat ((mGet v_h.History s.Node).getD (0,0)).2) (bi (hGet al.2.2.1 (((mGet v_h.History s.Node).getD (0,0)).1)) fun m101=>bi (getZ m101 (wi (((((mGet v_h.History s.Node).getD (0,0)).2:Nat):Int) - 1))) fun x103=>some (.inl ((mDel v_h.nodes s.Node),v_h.History,(al.1,al.2.1,(hSet al.2.2.1 (((mGet v_h.History s.Node).getD (0,0)).1) (m101.set (wi (((((mGet v_h.History s.Node).getD (0,0)).2:Nat):Int) - 1)).toNat (⟨x103.Public,x103.From,s.At⟩:Lfk))),al.2.2.2.1,al.2.2.2.2.1,al.2.2.2.2.2))))))))):Option (((List (Str×Nat))×(List (Str×Vl))×BagT) ⊕ (Int×Lfh×BagT))) fun q=>orI q fun a3=>some (0,(⟨v_h.d,v_h.keys,a3.1,v_h.ever,a3.2.1⟩:Lfh),a3.2.2)
def Ljz(v_h:Lfh)(s:Ley)(al:BagT):Option (Int×Lfh×BagT):=
 bi (bif (s.Kind:Int)==1 then(some ((s.Kind:Int)==1)) else(some ((s.Kind:Int)==2))) fun q1=>bif q1 then(bi (Ljr v_h s al) fun y6=>some (y6.1,y6.2.1,y6.2.2)) else(bif (s.Kind:Int)==3 then(bi (Ljt v_h s al) fun y10=>some (y10.1,y10.2.1,y10.2.2)) else(bi (Lgj v_h.d.Users s.By) fun y13=>bif !y13 then(some (8,v_h,al)) else(bif (((mGet v_h.nodes s.Node).getD 0)==0) then(some (8,v_h,al)) else(bif (s.Kind:Int)==4 then(gd (Nat.blt 0 ((mGet v_h.nodes s.Node).getD 0)) (bi (hGet al.2.2.2.1 ((mGet v_h.nodes s.Node).getD 0)) fun m22=>bif m22.Approved then(some (11,v_h,al)) else(gd (Nat.blt 0 ((mGet v_h.nodes s.Node).getD 0)) (bi (hGet al.2.2.2.1 ((mGet v_h.nodes s.Node).getD 0)) fun m28=>some (0,v_h,(al.1,al.2.1,al.2.2.1,(hSet al.2.2.2.1 ((mGet v_h.nodes s.Node).getD 0) (⟨m28.Node,m28.User,m28.Name,m28.Public,m28.Tags,m28.Joined,m28.Expires,true⟩:Lfc)),al.2.2.2.2.1,al.2.2.2.2.2)))))) else(gd (Nat.blt 0 ((mGet v_h.nodes s.Node).getD 0)) (bi (hGet al.2.2.2.1 ((mGet v_h.nodes s.Node).getD 0)) fun m33=>bi (Ljx v_h.d s.By m33) fun y35=>bif !y35 then(some (16,v_h,al)) else(bi (Ljy v_h s ((mGet v_h.nodes s.Node).getD 0) al) fun y39=>some (y39.1,y39.2.1,y39.2.2))))))))
def Lka(d:Lex)(l:List Ley)(v_at:Int)(al:BagT):Option (Lfh×(List Lfi)×BagT):=
 bi (Ljo d) fun y1=>bi (rangeM (σ:=BagT×(List (Str×Nat))×(List (Str×Nat))×(List (Str×Bool))×(List (Str×Vl))×(List Str)×(List Lew)×Int×Bool×(List Lfi)) (ρ:=BagT×(List (Str×Nat))×(List (Str×Nat))×(List (Str×Bool))×(List (Str×Vl))×(List Str)×(List Lew)×Int×Bool×(List Lfi)) (fun i3 x5 s4=>bif decide ((x5.At:Int)>v_at) then(some (.out (s4.1,s4.2.1,s4.2.2.1,s4.2.2.2.1,s4.2.2.2.2.1,s4.2.2.2.2.2.1,s4.2.2.2.2.2.2.1,s4.2.2.2.2.2.2.2.1,s4.2.2.2.2.2.2.2.2.1,s4.2.2.2.2.2.2.2.2.2))) else(bi (Ljz (⟨(⟨s4.2.2.2.2.2.1,s4.2.2.2.2.2.2.1,s4.2.2.2.2.2.2.2.1,s4.2.2.2.2.2.2.2.2.1⟩:Lex),s4.2.1,s4.2.2.1,s4.2.2.2.1,s4.2.2.2.2.1⟩:Lfh) x5 s4.1) fun y18=>bif (y18.1:Int) != 0 then(bi (apd s4.2.2.2.2.2.2.2.2.2 [(⟨(i3:Int),y18.1⟩:Lfi)]) fun y21=>some (.go (y18.2.2,y18.2.1.keys,y18.2.1.nodes,y18.2.1.ever,y18.2.1.History,y18.2.1.d.Users,y18.2.1.d.Owners,y18.2.1.d.Life,y18.2.1.d.Approve,y21))) else(some (.go (y18.2.2,y18.2.1.keys,y18.2.1.nodes,y18.2.1.ever,y18.2.1.History,y18.2.1.d.Users,y18.2.1.d.Owners,y18.2.1.d.Life,y18.2.1.d.Approve,s4.2.2.2.2.2.2.2.2.2))))) 0 l (al,y1.keys,y1.nodes,y1.ever,y1.History,y1.d.Users,y1.d.Owners,y1.d.Life,y1.d.Approve,([]:List Lfi))) fun q=>bi (lsN q fun s4=>(s4.1,s4.2.1,s4.2.2.1,s4.2.2.2.1,s4.2.2.2.2.1,s4.2.2.2.2.2.1,s4.2.2.2.2.2.2.1,s4.2.2.2.2.2.2.2.1,s4.2.2.2.2.2.2.2.2.1,s4.2.2.2.2.2.2.2.2.2)) fun q10=>some ((⟨(⟨q10.2.2.2.2.2.1,q10.2.2.2.2.2.2.1,q10.2.2.2.2.2.2.2.1,q10.2.2.2.2.2.2.2.2.1⟩:Lex),q10.2.1,q10.2.2.1,q10.2.2.2.1,q10.2.2.2.2.1⟩:Lfh),q10.2.2.2.2.2.2.2.2.2,q10.1)
def Lkb(x:Int):Option Int:=
 bi (bif decide ((x:Int)≥4294967296) then(some (shrV .u64 x 32,32)) else(some (x,0))) fun q1=>bi (bif decide ((q1.1:Int)≥65536) then(some (shrV .u64 q1.1 16,wi (q1.2+16))) else(some (q1.1,q1.2))) fun q5=>bi (bif decide ((q5.1:Int)≥256) then(some (shrV .u64 q5.1 8,wi (q5.2+8))) else(some (q5.1,q5.2))) fun q9=>bi (getZ ([0,1,2,2,3,3,3,3,4,4,4,4,4,4,4,4,5,5,5,5,5,5,5,5,5,5,5,5,5,5,5,5,6,6,6,6,6,6,6,6,6,6,6,6,6,6,6,6,6,6,6,6,6,6,6,6,6,6,6,6,6,6,6,6,7,7,7,7,7,7,7,7,7,7,7,7,7,7,7,7,7,7,7,7,7,7,7,7,7,7,7,7,7,7,7,7,7,7,7,7,7,7,7,7,7,7,7,7,7,7,7,7,7,7,7,7,7,7,7,7,7,7,7,7,7,7,7,7,8,8,8,8,8,8,8,8,8,8,8,8,8,8,8,8,8,8,8,8,8,8,8,8,8,8,8,8,8,8,8,8,8,8,8,8,8,8,8,8,8,8,8,8,8,8,8,8,8,8,8,8,8,8,8,8,8,8,8,8,8,8,8,8,8,8,8,8,8,8,8,8,8,8,8,8,8,8,8,8,8,8,8,8,8,8,8,8,8,8,8,8,8,8,8,8,8,8,8,8,8,8,8,8,8,8,8,8,8,8,8,8,8,8,8,8,8,8,8,8,8,8,8,8,8,8,8,8]:Str) (IntKind.u8.wrap (q9.1))) fun c13=>some (wi (q9.2+(wi ((c13.toNat:Int)))))
def Lkc(x:Int):Option Int:=
 bi (Lkb x) fun y1=>some y1
def Lkd(a:Lfc)(b:Lfc):Option Int:=
 bi (Kqy a.Node b.Node) fun y1=>some y1
def Lke(k:Nat)(data:List Lfc)(a:Int)(b:Int):Option (List Lfc):=
 bi (loopM (σ:=(List Lfc)×Int) (ρ:=List Lfc) (fun s2=>bif decide ((s2.2:Int)<b) then(bi (loopM (σ:=(List Lfc)×Int) (ρ:=List Lfc) (fun s13=>bi (bif decide ((s13.2:Int)>a) then(bi (getZ s13.1 s13.2) fun x25=>bi (getZ s13.1 (wi (s13.2 - 1))) fun x28=>bi (Lkd x25 x28) fun y31=>some (decide ((y31:Int)<0))) else(some false)) fun q22=>bif q22 then(bi (getZ s13.1 (wi (s13.2 - 1))) fun x35=>bi (getZ s13.1 s13.2) fun x38=>bi (getZ s13.1 s13.2) fun x41=>bi (getZ s13.1 (wi (s13.2 - 1))) fun x44=>bi (getZ (s13.1.set s13.2.toNat x35) (((wi (s13.2 - 1)).toNat:Nat):Int)) fun x47=>some (.go ((s13.1.set s13.2.toNat x35).set ((wi (s13.2 - 1)).toNat) x38,wi (s13.2 - 1)))) else(some (.out s13.1))) k (s2.1,s2.2)) fun q15=>some (.go (q15,wi (s2.2+1)))) else(some (.out s2.1))) k (data,wi (a+1))) fun q4=>some q4
def Lkf(k:Nat)(data:List Lfc)(a:Int)(b:Int)(limit:Int):Option (List Lfc):=
 bi (loopM (σ:=Unit) (ρ:=List Lfc) (fun s2=>bif decide ((wi (b - a):Int)≤12) then(bi (Lke k data a b) fun y12=>bi (some y12) fun v=>some (.out v)) else(bif (limit:Int)==0 then none else none)) k ()) fun v=>some v
def Lkg(k:Nat)(x:List Lfc):Option (List Lfc):=
 bi (Lkc (IntKind.u64.wrap ((x.length:Int)))) fun y1=>bi (Lkf k x 0 (x.length:Int) y1) fun y3=>some y3
def Lkh(k:Nat)(d:Lex)(l:List Ley)(v_at:Int)(al:BagT):Option ((List Lfc)×BagT):=
 bi (Lka d l v_at al) fun y1=>rangeD (σ:=List Lfc) (fun x10 s9=>gd (Nat.blt 0 x10.2) (bi (hGet y1.2.2.2.2.2.1 x10.2) fun m25=>bi (apd s9 [m25]) fun y27=>some y27)) y1.1.nodes ([]:List Lfc) fun s9=>bi (Lkg k s9) fun y17=>gd (decide (y17.length=s9.length)) (some (y17,y1.2.2))
def Lki(k:Nat)(s:List Int):Option (List Int):=
 bif decide (((s.length:Int):Int)<2) then(some s) else(bi (loopM (σ:=Int) (ρ:=Unit ⊕ (List Int)) (fun s4=>bif decide ((s4:Int)<(s.length:Int)) then(bi (getZ s s4) fun x14=>bi (getZ s (wi (s4 - 1))) fun x17=>bif (x14:Int)==x17 then(bi (subZ s s4 (s.length:Int)) fun z21=>bi (loopM (σ:=(List Int)×Int×Int) (ρ:=(List Int)×Int) (fun s24=>bif decide ((s24.2.2:Int)<(z21.length:Int)) then(bi (getZ z21 s24.2.2) fun x34=>bi (getZ s24.1 (((s4.toNat+s24.2.2.toNat):Nat):Int)) fun x36=>bi (getZ z21 (wi (s24.2.2 - 1))) fun x39=>bi (getZ s24.1 (((s4.toNat+(wi (s24.2.2 - 1)).toNat):Nat):Int)) fun x41=>bif (x36:Int) != x41 then(bi (getZ z21 s24.2.2) fun x45=>bi (getZ s24.1 (((s4.toNat+s24.2.2.toNat):Nat):Int)) fun x47=>bi (getZ s24.1 s24.2.1) fun x50=>some (.go (s24.1.set s24.2.1.toNat x47,wi (s24.2.1+1),wi (s24.2.2+1)))) else(some (.go (s24.1,s24.2.1,wi (s24.2.2+1))))) else(some (.out (s24.1,s24.2.1)))) k (s,s4,1)) fun q26=>bi (subZ q26.1 q26.2 (q26.1.length:Int)) fun z55=>bi (some (q26.1.take q26.2.toNat)) fun v=>some (.out (.inr v))) else(some (.go (wi (s4+1))))) else(some (.out (.inl ())))) k 1) fun q=>orI q fun a8=>some s)
def Lkj(k:Nat)(d:Lex)(l:List Ley)(al:BagT):Option ((List Int)×BagT):=
 bi (rangeF (σ:=BagT×(List Int)) (fun i1 x3 s2=>bi (apd s2.2 [x3.At]) fun y12=>bi (Lkh k d l x3.At s2.1) fun y14=>bi (rangeF (σ:=List Int) (fun i16 x18 s17=>bif decide ((x18.Expires:Int)<345686400) then(bi (apd s17 [x18.Expires]) fun y28=>some y28) else(some s17)) 0 y14.1 y12) fun q19=>some (y14.2,q19)) 0 l (al,([]:List Int))) fun q4=>bi (Krd q4.2) fun y31=>gd (decide (y31.length=q4.2.length)) (bi (Lki k y31) fun y35=>some (y35,q4.1))
def Lkk(k:Nat)(d:Lex)(l:List Ley)(v_at:Int)(al:BagT):Option ((List Str)×BagT):=
 bi (Lkh k d l v_at al) fun y1=>bi (rangeF (σ:=List Str) (fun i3 x5 s4=>bif (x5.Approved&&(decide ((v_at:Int)<x5.Expires))) then(bi (apd s4 [x5.Node]) fun y15=>some y15) else(some s4)) 0 y1.1 ([]:List Str)) fun q6=>some (q6,y1.2)
def Lkl(s1:List Str)(s2:List Str):Option Bool:=
 bif ((s1.length:Int):Int) != (s2.length:Int) then(some false) else(bi (rangeM (σ:=Unit) (ρ:=Bool) (fun i3 x5 s4=>bi (getZ s2 (i3:Int)) fun x14=>bif !((x5:Str)==x14) then(bi (some false) fun v=>some (.out v)) else(some (.go ()))) 0 s1 ()) fun q=>goI q fun a8=>some true)
def Lkm(k:Nat)(d:Lex)(l:List Ley)(v_at:Int)(al:BagT):Option (Int×Bool×BagT):=
 bi (Lkj k d l al) fun y1=>bi (rangeM (σ:=BagT) (ρ:=Int×Bool×BagT) (fun i3 x5 s4=>bi (bif decide ((x5:Int)>v_at) then(bi (Lkk k d l x5 s4) fun y17=>bi (Lkk k d l (wi (x5 - 1)) y17.2) fun y19=>bi (Lkl y17.1 y19.1) fun y21=>some (y19.2,!y21)) else(some (s4,false))) fun q14=>bif q14.2 then(bi (some (x5,true,q14.1)) fun v=>some (.out v)) else(some (.go q14.1))) 0 y1.1 y1.2) fun q=>goI q fun a8=>some (0,false,a8)
def Lkn(a:Lfc)(b:Lfc):Option Int:=
 bi (Lfx a.Expires b.Expires) fun y1=>some y1
def Lko(k:Nat)(data:List Lfc)(a:Int)(b:Int):Option (List Lfc):=
 bi (loopM (σ:=(List Lfc)×Int) (ρ:=List Lfc) (fun s2=>bif decide ((s2.2:Int)<b) then(bi (loopM (σ:=(List Lfc)×Int) (ρ:=List Lfc) (fun s13=>bi (bif decide ((s13.2:Int)>a) then(bi (getZ s13.1 s13.2) fun x25=>bi (getZ s13.1 (wi (s13.2 - 1))) fun x28=>bi (Lkn x25 x28) fun y31=>some (decide ((y31:Int)<0))) else(some false)) fun q22=>bif q22 then(bi (getZ s13.1 (wi (s13.2 - 1))) fun x35=>bi (getZ s13.1 s13.2) fun x38=>bi (getZ s13.1 s13.2) fun x41=>bi (getZ s13.1 (wi (s13.2 - 1))) fun x44=>bi (getZ (s13.1.set s13.2.toNat x35) (((wi (s13.2 - 1)).toNat:Nat):Int)) fun x47=>some (.go ((s13.1.set s13.2.toNat x35).set ((wi (s13.2 - 1)).toNat) x38,wi (s13.2 - 1)))) else(some (.out s13.1))) k (s2.1,s2.2)) fun q15=>some (.go (q15,wi (s2.2+1)))) else(some (.out s2.1))) k (data,wi (a+1))) fun q4=>some q4
def Lkp(k:Nat)(data:List Lfc)(n:Int):Option (List Lfc):=
 bi (loopM (σ:=(List Lfc)×Int×Int) (ρ:=(List Lfc)×Int) (fun s2=>bif decide ((s2.2.2:Int)≤n) then(bi (Lko k s2.1 s2.2.1 s2.2.2) fun y12=>gd (decide (y12.length=s2.1.length)) (some (.go (y12,s2.2.2,wi (s2.2.2+20))))) else(some (.out (s2.1,s2.2.1)))) k (data,0,20)) fun q4=>bi (Lko k q4.1 q4.2 n) fun y17=>gd (decide (y17.length=q4.1.length)) (bi (loopM (σ:=Int) (ρ:=Unit) (fun s22=>bif decide ((s22:Int)<n) then(bi (loopM (σ:=Unit) (ρ:=Unit) (fun s33=>bif decide ((wi (2 * s22):Int)≤n) then none else(some (.out ()))) k ()) fun q35=>bif decide ((wi (0+s22):Int)<n) then none else(some (.go (wi (s22 * 2))))) else(some (.out ()))) k 20) fun q24=>some y17)
def Lkq(k:Nat)(x:List Lfc):Option (List Lfc):=
 bi (Lkp k x (x.length:Int)) fun y1=>some y1
def Lkr(k:Nat)(d:Lex)(l:List Ley)(v_at:Int)(within:Int)(al:BagT):Option ((List Str)×BagT):=
 bi (Lkh k d l v_at al) fun y1=>bi (rangeF (σ:=List Lfc) (fun i3 x5 s4=>bif ((x5.Approved&&(decide ((v_at:Int)<x5.Expires)))&&(decide ((x5.Expires:Int)≤(wi (v_at+within))))) then(bi (apd s4 [x5]) fun y15=>some y15) else(some s4)) 0 y1.1 ([]:List Lfc)) fun q6=>bi (Lkq k q6) fun y18=>gd (decide (y18.length=q6.length)) (bi (gd (decide ((y18.length:Int)≤9223372036854775807)) (rangeG (σ:=List Str) (fun i22 s23=>bi (getZ y18 (i22:Int)) fun x34=>bi (apd s23 [x34.Node]) fun y37=>some y37) (y18.length:Int) ([]:List Str))) fun q25=>some (q25,y1.2))
def Lks(k:Nat)(d:Lex)(l:List Ley)(node:Str)(w:Lfa)(al:BagT):Option (Int×BagT):=
 bi (Lkj k d l al) fun y1=>bi (apd y1.1 [0,345686400]) fun y3=>bi (Krd y3) fun y5=>gd (decide (y5.length=y3.length)) (bi (gd (decide ((wi ((y5.length:Int) - 1))≤9223372036854775807)) (rangeG (σ:=BagT×Int) (fun i9 s10=>bi (getZ y5 (wi ((i9:Int)+1))) fun x21=>bi (getZ y5 (i9:Int)) fun x24=>bi (bif decide ((wi ((if w.To<x21 then w.To else x21) - (if w.From>x24 then w.From else x24)):Int)>0) then(bi (getZ y5 (i9:Int)) fun x30=>bi (Lkk k d l x30 s10.1) fun y33=>bi (Lgj y33.1 node) fun y35=>some (y33.2,y35)) else(some (s10.1,false))) fun q27=>bif q27.2 then(some (q27.1,wi (s10.2+(wi ((if w.To<x21 then w.To else x21) - (if w.From>x24 then w.From else x24)))))) else(some (q27.1,s10.2))) (wi ((y5.length:Int) - 1)) (y1.2,0))) fun q12=>some (q12.2,q12.1))
def Lkt(k:Nat)(d:Lex)(user:Str)(tag:Str):Option (Bool×Int):=
 bi (Lhd k d) fun y1=>bif (y1:Int) != 0 then(some (false,y1)) else(bi (Lid d user tag) fun y5=>bi (Lgj d.Users user) fun y7=>bif ((!y7)||(!y5.2)) then(some (false,8)) else(some (y5.1,0)))
def Lku(k:Nat):Option Bool:=
 bi (Lkt k (⟨[[97]],[(⟨[116],[[97]]⟩:Lew)],1,false⟩:Lex) [97] [116]) fun y1=>some (((y1.2:Int)==0)&&y1.1)
def Lkv(k:Nat)(l:List Int)(al:BagT):Option (Bool×BagT):=
 bi (Lfn (⟨l,0⟩:Lev) 0 12) fun y1=>bi (Lgx k y1.2 y1.1) fun y3=>bi (Lgy y3.2) fun y5=>bi (Lfo y5.2 [0,10,60,200,345686400,-1]) fun y7=>bi (Lfr y7.2 [[110,97],[110,97],[110,98],[65]]) fun y9=>bi (Lgz y9.2) fun y11=>bi (Lix k y3.1.d y3.1.l y5.1 al) fun y13=>bi (Ljf k y3.1.d y3.1.l y5.1 y7.1 y13.2.2) fun y15=>bi (Lji k y3.1.d y3.1.l y5.1 y15.2.2) fun y17=>bi (Ljj k y3.1.d y3.1.l y9.1 y11.1 y17.2.2.2) fun y19=>bi (Ljk y5.1) fun y21=>bi (Lgw [y3.1.fault,y21]) fun y23=>bi (Ljl ((decide ((y7.1:Int)<0))||(decide ((y7.1:Int)>345686400))) 1) fun y25=>bi (Lgw [y23,y25]) fun y27=>bi (Ljm y9.1) fun y29=>bi (Ljn y11.1) fun y31=>bi (Lgw [y3.1.fault,y29,y31]) fun y33=>bif (((((y13.2.1:Int) != y23)||((y17.2.2.1:Int) != y23))||((y15.2.1:Int) != y27))||((y19.2.1:Int) != y33)) then(some (false,y19.2.2)) else(bi (bif (y23:Int)==0 then(bi (Lkm k y3.1.d y3.1.l y5.1 y19.2.2) fun y41=>bi (Lkk k y3.1.d y3.1.l y5.1 y41.2.2) fun y43=>bi (Lkl y13.1 y43.1) fun y45=>bif (((!y45)||((y17.1:Int) != y41.1))||(!((y17.2.1:Bool)==y41.2.1))) then(bi (some (false,y43.2)) fun v=>some (.inr v)) else(some (.inl y43.2))) else(some (.inl y19.2.2)):Option (BagT ⊕ (Bool×BagT))) fun q=>orI q fun a39=>bi (bif (y27:Int) != 0 then(some (a39,true)) else(bi (Lkr k y3.1.d y3.1.l y5.1 y7.1 a39) fun y56=>bi (Lkl y15.1 y56.1) fun y58=>some (y56.2,y58))) fun q52=>bi (bif q52.2 then(bi (bif (y33:Int) != 0 then(some (q52.1,true)) else(bi (Lks k y3.1.d y3.1.l y9.1 y11.1 q52.1) fun y67=>some (y67.2,(y19.1:Int)==y67.1))) fun q63=>some (q63.1,q63.2)) else(some (q52.1,false))) fun q60=>bi (bif q60.2 then(bi (Lku k) fun y73=>some y73) else(some false)) fun q70=>some (q70,q60.1))
def Lkw(p:Lfg)(v_at:Int):Option Int:=
 bif (p.revoked||(decide ((v_at:Int)≥p.Join.Until))) then(some 11) else(bif decide ((p.used:Int)≥p.Join.Left) then(some 12) else(some 0))
end
end Go.Gk
