/-
  Models of functions.
-/
import Derived.Test.YtjmlnnanfkiakaaGreatDoorMStr3
set_option linter.unusedVariables false
namespace Go.Gk
noncomputable section
structure T_lanemake_Stream where
  L : List Int
  v_at : Int
  deriving DecidableEq
structure T_api_Owner where
  Tag : Str
  Users : List Str
  deriving DecidableEq
structure T_api_Directory where
  Users : List Str
  Owners : List T_api_Owner
  Life : Int
  Approve : Bool
  deriving DecidableEq
structure T_api_Step where
  At : Int
  Server : Str
  No : Int
  Kind : Int
  By : Str
  Node : Str
  Join : Str
  Public : Str
  Name : Str
  Tags : List Str
  Until : Int
  Uses : Int
  Ready : Bool
  deriving DecidableEq
structure T_lanelaw1_yard where
  d : T_api_Directory
  l : List T_api_Step
  fault : Int
  deriving DecidableEq
structure T_node_origin where
  server : Str
  no : Int
  deriving DecidableEq


def m_lanemake_Below (x : Int) (n : Int) : Option Int :=
  bif decide ((n : Int) < 1) then (some 0) else (bi (remZ x n) fun y3 => bi (bif decide ((y3 : Int) < 0) then (some (wi (y3 + n))) else (some y3)) fun q5 => some q5)

def m_lanemake_Stream_Next (s : T_lanemake_Stream) (n : Int) : Option (Int × T_lanemake_Stream) :=
  bif ((s.L.length : Int) : Int) == 0 then (bi (m_lanemake_Below (wi ((wi (s.v_at + 1)) * 7919)) n) fun y2 => some (y2, (⟨s.L, wi (s.v_at + 1)⟩ : T_lanemake_Stream))) else (bi (remZ (wi ((wi (s.v_at + 1)) - 1)) (s.L.length : Int)) fun y5 => bi (divZ .i64 (wi ((wi (s.v_at + 1)) - 1)) (s.L.length : Int)) fun y7 => bi (getZ s.L y5) fun x9 => bi (m_lanemake_Below x9 1073741824) fun y11 => bi (m_lanemake_Below (wi (y11 + (wi (y7 * (wi (7919 + y5)))))) n) fun y13 => some (y13, (⟨s.L, wi (s.v_at + 1)⟩ : T_lanemake_Stream)))

def m_lanemake_Stream_Range (s : T_lanemake_Stream) (low : Int) (high : Int) : Option (Int × T_lanemake_Stream) :=
  bif decide ((high : Int) < low) then (some (low, s)) else (bi (m_lanemake_Stream_Next s (wi ((wi (high - low)) + 1))) fun y3 => some (wi (low + y3.1), y3.2))

def m_lanemake_Stream_Pick (s : T_lanemake_Stream) (l : List Int) : Option (Int × T_lanemake_Stream) :=
  bi (m_lanemake_Stream_Next s (l.length : Int)) fun y1 => bi (getZ l y1.1) fun x3 => some (x3, y1.2)

def m_lanemake_Stream_Flip (s : T_lanemake_Stream) (n : Int) : Option (Bool × T_lanemake_Stream) :=
  bi (m_lanemake_Stream_Next s n) fun y1 => some ((y1.1 : Int) == 0, y1.2)

def m_lanemake_Stream_RightDirectory (s : T_lanemake_Stream) : Option (T_api_Directory × T_lanemake_Stream) :=
  bi (m_lanemake_Stream_Next s 3) fun y1 => bi (getZ [[[97, 110, 110], [98, 111, 98]], [[98, 111, 98]], []] y1.1) fun x3 => bi (m_lanemake_Stream_Next y1.2 2) fun y5 => bi (getZ [[[97, 110, 110]], [[97, 110, 110], [99, 105, 100]]] y5.1) fun x7 => bi (m_lanemake_Stream_Pick y5.2 [20, 60, 100, 1000]) fun y9 => bi (m_lanemake_Stream_Flip y9.2 3) fun y11 => some ((⟨[[97, 110, 110], [98, 111, 98], [99, 105, 100]], [(⟨[100, 98], x3⟩ : T_api_Owner), (⟨[119, 101, 98], x7⟩ : T_api_Owner)], y9.1, y11.1⟩ : T_api_Directory), y11.2)

def m_lanemake_Stream_Some (s : T_lanemake_Stream) (l : List Str) : Option (Str × T_lanemake_Stream) :=
  bi (m_lanemake_Stream_Next s (l.length : Int)) fun y1 => bi (getZ l y1.1) fun x3 => some (x3, y1.2)

def m_lanemake_Stream_Directory (s : T_lanemake_Stream) : Option (T_api_Directory × T_lanemake_Stream) :=
  bi (m_lanemake_Stream_RightDirectory s) fun y1 => bi (m_lanemake_Stream_Flip y1.2 15) fun y3 => bi (bif y3.1 then (bi (m_lanemake_Stream_Next y3.2 4) fun y8 => bif (y8.1 : Int) == 0 then (bi (m_lanemake_Stream_Some y8.2 [[], [97, 110, 110], [65]]) fun y11 => bi (apd y1.1.Users [y11.1]) fun y13 => some (y11.2, y13, y1.1.Owners, y1.1.Life)) else (bif (y8.1 : Int) == 1 then (bi (m_lanemake_Stream_Some y8.2 [[], [100, 98], [122, 122]]) fun y17 => bi (m_lanemake_Stream_Some y17.2 [[97, 110, 110], [110, 111, 110, 101]]) fun y19 => bi (apd y1.1.Owners [(⟨y17.1, [y19.1]⟩ : T_api_Owner)]) fun y21 => some (y19.2, y1.1.Users, y21, y1.1.Life)) else (bif (y8.1 : Int) == 2 then (bi (m_lanemake_Stream_Some y8.2 [[97, 110, 110], [98, 111, 98]]) fun y25 => bi (getZ y1.1.Owners 0) fun x27 => some (y25.2, y1.1.Users, y1.1.Owners.set ((0 : Int).toNat) (⟨x27.Tag, [[98, 111, 98], y25.1]⟩ : T_api_Owner), y1.1.Life)) else (bi (m_lanemake_Stream_Pick y8.2 [0, 345686400, 345686401]) fun y31 => some (y31.2, y1.1.Users, y1.1.Owners, y31.1))))) else (some (y3.2, y1.1.Users, y1.1.Owners, y1.1.Life))) fun q5 => some ((⟨q5.2.1, q5.2.2.1, q5.2.2.2, y1.1.Approve⟩ : T_api_Directory), q5.1)

def m_lanemake_Stream_User (s : T_lanemake_Stream) : Option (Str × T_lanemake_Stream) :=
  bi (m_lanemake_Stream_Some s [[97, 110, 110], [97, 110, 110], [97, 110, 110], [98, 111, 98], [99, 105, 100], [122, 101, 100]]) fun y1 => some (y1.1, y1.2)

def m_lanemake_Stream_tags (s : T_lanemake_Stream) : Option ((List Str) × T_lanemake_Stream) :=
  bi (m_lanemake_Stream_Next s 6) fun y1 => bi (getZ [[], [[119, 101, 98]], [[119, 101, 98]], [[100, 98]], [[100, 98], [119, 101, 98]], [[110, 111, 110, 101]]] y1.1) fun x3 => some (x3, y1.2)

def m_lanemake_Stream_OneStep (s : T_lanemake_Stream) (v_at : Int) : Option (T_api_Step × T_lanemake_Stream) :=
  bi (m_lanemake_Stream_Some s [[115, 49], [115, 49], [115, 50]]) fun y1 => bi (m_lanemake_Stream_Pick y1.2 [1, 2, 3, 3, 3, 3, 3, 4, 5, 5, 6, 7, 7, 8, 9]) fun y3 => bi (m_lanemake_Stream_User y3.2) fun y5 => bi (m_lanemake_Stream_Some y5.2 [[110, 97], [110, 97], [110, 98], [110, 98], [110, 99], [110, 100]]) fun y7 => bi (m_lanemake_Stream_Some y7.2 [[107, 49], [107, 49], [107, 50]]) fun y9 => bi (m_lanemake_Stream_Some y9.2 [[48, 97], [48, 98], [48, 99], [48, 100], [48, 101], [49, 97], [49, 98]]) fun y11 => bi (bif (y3.1 : Int) == 1 then (bi (m_lanemake_Stream_tags y11.2) fun y16 => bi (m_lanemake_Stream_Pick y16.2 [0, 5, 50, 200]) fun y18 => bi (m_lanemake_Stream_Pick y18.2 [0, 1, 2, 1000, 1001]) fun y20 => bi (m_lanemake_Stream_Flip y20.2 2) fun y22 => some (y22.2, (⟨v_at, y1.1, 0, y3.1, y5.1, [], y9.1, [], [], y16.1, wi (v_at + y18.1), y20.1, y22.1⟩ : T_api_Step))) else (bif (y3.1 : Int) == 2 then (some (y11.2, (⟨v_at, y1.1, 0, y3.1, y5.1, [], y9.1, [], [], [], 0, 0, false⟩ : T_api_Step))) else (bif (y3.1 : Int) == 3 then (bi (m_lanemake_Stream_Some y11.2 [y7.1, [98, 111, 120], [98, 111, 120], [119, 101, 98]]) fun y28 => bi (m_lanemake_Stream_Flip y28.2 4) fun y30 => bif y30.1 then (bi (m_lanemake_Stream_Flip y30.2 8) fun y33 => bif !y33.1 then (some (y33.2, (⟨v_at, y1.1, 0, y3.1, [], y7.1, y9.1, y11.1, y28.1, [], 0, 0, false⟩ : T_api_Step))) else (some (y33.2, (⟨v_at, y1.1, 0, y3.1, y5.1, y7.1, y9.1, y11.1, y28.1, [], 0, 0, false⟩ : T_api_Step)))) else (some (y30.2, (⟨v_at, y1.1, 0, y3.1, y5.1, y7.1, [], y11.1, y28.1, [], 0, 0, false⟩ : T_api_Step)))) else (bif (y3.1 : Int) == 5 then (some (y11.2, (⟨v_at, y1.1, 0, y3.1, y5.1, y7.1, [], y11.1, [], [], 0, 0, false⟩ : T_api_Step))) else (bif (y3.1 : Int) == 6 then (bi (m_lanemake_Stream_Some y11.2 [[98, 111, 120], [119, 101, 98], [109, 97, 99]]) fun y42 => some (y42.2, (⟨v_at, y1.1, 0, y3.1, y5.1, y7.1, [], [], y42.1, [], 0, 0, false⟩ : T_api_Step))) else (bif (y3.1 : Int) == 7 then (bi (m_lanemake_Stream_tags y11.2) fun y46 => some (y46.2, (⟨v_at, y1.1, 0, y3.1, y5.1, y7.1, [], [], [], y46.1, 0, 0, false⟩ : T_api_Step))) else (some (y11.2, (⟨v_at, y1.1, 0, y3.1, y5.1, y7.1, [], [], [], [], 0, 0, false⟩ : T_api_Step))))))))) fun q13 => some (q13.2, q13.1)

def m_cmp_isNaN_int (x : Int) : Option Bool :=
  some ((x : Int) != x)

def m_cmp_Compare_int (x : Int) (y : Int) : Option Int :=
  bi (m_cmp_isNaN_int x) fun y1 => bi (m_cmp_isNaN_int y) fun y3 => bif y1 then (bif y3 then (some 0) else (some (-1))) else (bif y3 then (some 1) else (bif decide ((x : Int) < y) then (some (-1)) else (bif decide ((x : Int) > y) then (some 1) else (some 0))))

def m_cmp_Or_int (vals : List Int) : Option Int :=
  bi (rangeM (σ := Unit) (ρ := Int) (fun i1 x3 s2 => bif (x3 : Int) != 0 then (bi (some x3) fun v => some (.out v)) else (some (.go ()))) 0 vals ()) fun q => goI q fun a6 => some 0

def m_laneref1_StepOrder (a : T_api_Step) (b : T_api_Step) : Option Int :=
  bi (m_cmp_Compare_int a.At b.At) fun y1 => bi (m_strings_Compare a.Server b.Server) fun y3 => bi (m_cmp_Compare_int a.No b.No) fun y5 => bi (m_cmp_Or_int [y1, y3, y5]) fun y7 => some y7

def m_slices_insertionSortCmpFunc_api_Step (k : Nat) (data : List T_api_Step) (a : Int) (b : Int) : Option (List T_api_Step) :=
  bi (loopM (σ := (List T_api_Step) × Int) (ρ := List T_api_Step) (fun s2 => bif decide ((s2.2 : Int) < b) then (bi (loopM (σ := (List T_api_Step) × Int) (ρ := List T_api_Step) (fun s13 => bi (bif decide ((s13.2 : Int) > a) then (bi (getZ s13.1 s13.2) fun x25 => bi (getZ s13.1 (wi (s13.2 - 1))) fun x28 => bi (m_laneref1_StepOrder x25 x28) fun y31 => some (decide ((y31 : Int) < 0))) else (some false)) fun q22 => bif q22 then (bi (getZ s13.1 (wi (s13.2 - 1))) fun x35 => bi (getZ s13.1 s13.2) fun x38 => bi (getZ s13.1 s13.2) fun x41 => bi (getZ s13.1 (wi (s13.2 - 1))) fun x44 => bi (getZ (s13.1.set s13.2.toNat x35) (((wi (s13.2 - 1)).toNat : Nat) : Int)) fun x47 => some (.go ((s13.1.set s13.2.toNat x35).set ((wi (s13.2 - 1)).toNat) x38, wi (s13.2 - 1)))) else (some (.out s13.1))) k (s2.1, s2.2)) fun q15 => some (.go (q15, wi (s2.2 + 1)))) else (some (.out s2.1))) k (data, wi (a + 1))) fun q4 => some q4

def m_slices_stableCmpFunc_api_Step (k : Nat) (data : List T_api_Step) (n : Int) : Option (List T_api_Step) :=
  bi (loopM (σ := (List T_api_Step) × Int × Int) (ρ := (List T_api_Step) × Int) (fun s2 => bif decide ((s2.2.2 : Int) ≤ n) then (bi (m_slices_insertionSortCmpFunc_api_Step k s2.1 s2.2.1 s2.2.2) fun y12 => gd (decide (y12.length = s2.1.length)) (some (.go (y12, s2.2.2, wi (s2.2.2 + 20))))) else (some (.out (s2.1, s2.2.1)))) k (data, 0, 20)) fun q4 => bi (m_slices_insertionSortCmpFunc_api_Step k q4.1 q4.2 n) fun y17 => gd (decide (y17.length = q4.1.length)) (bi (loopM (σ := Int) (ρ := Unit) (fun s22 => bif decide ((s22 : Int) < n) then (bi (loopM (σ := Unit) (ρ := Unit) (fun s33 => bif decide ((wi (2 * s22) : Int) ≤ n) then none else (some (.out ()))) k ()) fun q35 => bif decide ((wi (0 + s22) : Int) < n) then none else (some (.go (wi (s22 * 2))))) else (some (.out ()))) k 20) fun q24 => some y17)

def m_slices_SortStableFunc_api_Step_api_Step (k : Nat) (x : List T_api_Step) : Option (List T_api_Step) :=
  bi (m_slices_stableCmpFunc_api_Step k x (x.length : Int)) fun y1 => some y1

def m_lanemake_Stream_Steps (k : Nat) (s : T_lanemake_Stream) (many : Int) : Option ((List T_api_Step) × T_lanemake_Stream) :=
  bi (m_lanemake_Stream_Next s 5) fun y1 => bi (gd (decide (many ≤ 9223372036854775807)) (rangeG (σ := T_lanemake_Stream × (List T_api_Step) × (List (Str × Int)) × Int) (fun i3 s4 => bi (m_lanemake_Stream_OneStep s4.1 s4.2.2.2) fun y15 => bi (apd s4.2.1 [(⟨y15.1.At, y15.1.Server, ((mGet (mSet s4.2.2.1 y15.1.Server (wi (((mGet s4.2.2.1 y15.1.Server).getD 0) + 1))) y15.1.Server).getD 0), y15.1.Kind, y15.1.By, y15.1.Node, y15.1.Join, y15.1.Public, y15.1.Name, y15.1.Tags, y15.1.Until, y15.1.Uses, y15.1.Ready⟩ : T_api_Step)]) fun y17 => bi (m_lanemake_Stream_Pick y15.2 [0, 1, 1, 5, 20, 60]) fun y19 => some (y19.2, y17, (mSet s4.2.2.1 y15.1.Server (wi (((mGet s4.2.2.1 y15.1.Server).getD 0) + 1))), wi (s4.2.2.2 + y19.1))) many (y1.2, ([] : List T_api_Step), ([] : List (Str × Int)), y1.1))) fun q6 => bi (m_slices_SortStableFunc_api_Step_api_Step k q6.2.1) fun y21 => gd (decide (y21.length = q6.2.1.length)) (bi (bif decide (((y21.length : Int) : Int) > 0) then (bi (m_lanemake_Stream_Flip q6.1 15) fun y28 => some (y28.2, y28.1)) else (some (q6.1, false))) fun q25 => bi (bif q25.2 then (bi (m_lanemake_Stream_Next q25.1 (y21.length : Int)) fun y34 => bi (getZ y21 y34.1) fun x36 => bi (m_lanemake_Stream_Next y34.2 6) fun y39 => bif (y39.1 : Int) == 0 then (bi (m_lanemake_Stream_Pick y39.2 [-1, 0, 345686400]) fun y42 => some (y42.2, y21.set y34.1.toNat (⟨y42.1, x36.Server, x36.No, x36.Kind, x36.By, x36.Node, x36.Join, x36.Public, x36.Name, x36.Tags, x36.Until, x36.Uses, x36.Ready⟩ : T_api_Step))) else (bif (y39.1 : Int) == 1 then (bi (m_lanemake_Stream_Some y39.2 [[], [115, 49]]) fun y46 => bi (m_lanemake_Stream_Pick y46.2 [0, 1, 1000001]) fun y48 => some (y48.2, (y21.set y34.1.toNat (⟨x36.At, y46.1, x36.No, x36.Kind, x36.By, x36.Node, x36.Join, x36.Public, x36.Name, x36.Tags, x36.Until, x36.Uses, x36.Ready⟩ : T_api_Step)).set y34.1.toNat (⟨(⟨x36.At, y46.1, x36.No, x36.Kind, x36.By, x36.Node, x36.Join, x36.Public, x36.Name, x36.Tags, x36.Until, x36.Uses, x36.Ready⟩ : T_api_Step).At, (⟨x36.At, y46.1, x36.No, x36.Kind, x36.By, x36.Node, x36.Join, x36.Public, x36.Name, x36.Tags, x36.Until, x36.Uses, x36.Ready⟩ : T_api_Step).Server, y48.1, (⟨x36.At, y46.1, x36.No, x36.Kind, x36.By, x36.Node, x36.Join, x36.Public, x36.Name, x36.Tags, x36.Until, x36.Uses, x36.Ready⟩ : T_api_Step).Kind, (⟨x36.At, y46.1, x36.No, x36.Kind, x36.By, x36.Node, x36.Join, x36.Public, x36.Name, x36.Tags, x36.Until, x36.Uses, x36.Ready⟩ : T_api_Step).By, (⟨x36.At, y46.1, x36.No, x36.Kind, x36.By, x36.Node, x36.Join, x36.Public, x36.Name, x36.Tags, x36.Until, x36.Uses, x36.Ready⟩ : T_api_Step).Node, (⟨x36.At, y46.1, x36.No, x36.Kind, x36.By, x36.Node, x36.Join, x36.Public, x36.Name, x36.Tags, x36.Until, x36.Uses, x36.Ready⟩ : T_api_Step).Join, (⟨x36.At, y46.1, x36.No, x36.Kind, x36.By, x36.Node, x36.Join, x36.Public, x36.Name, x36.Tags, x36.Until, x36.Uses, x36.Ready⟩ : T_api_Step).Public, (⟨x36.At, y46.1, x36.No, x36.Kind, x36.By, x36.Node, x36.Join, x36.Public, x36.Name, x36.Tags, x36.Until, x36.Uses, x36.Ready⟩ : T_api_Step).Name, (⟨x36.At, y46.1, x36.No, x36.Kind, x36.By, x36.Node, x36.Join, x36.Public, x36.Name, x36.Tags, x36.Until, x36.Uses, x36.Ready⟩ : T_api_Step).Tags, (⟨x36.At, y46.1, x36.No, x36.Kind, x36.By, x36.Node, x36.Join, x36.Public, x36.Name, x36.Tags, x36.Until, x36.Uses, x36.Ready⟩ : T_api_Step).Until, (⟨x36.At, y46.1, x36.No, x36.Kind, x36.By, x36.Node, x36.Join, x36.Public, x36.Name, x36.Tags, x36.Until, x36.Uses, x36.Ready⟩ : T_api_Step).Uses, (⟨x36.At, y46.1, x36.No, x36.Kind, x36.By, x36.Node, x36.Join, x36.Public, x36.Name, x36.Tags, x36.Until, x36.Uses, x36.Ready⟩ : T_api_Step).Ready⟩ : T_api_Step))) else (bif (y39.1 : Int) == 2 then (bi (m_lanemake_Stream_Pick y39.2 [0, 10, 3]) fun y53 => some (y53.2, y21.set y34.1.toNat (⟨x36.At, x36.Server, x36.No, y53.1, x36.By, x36.Node, x36.Join, x36.Public, x36.Name, x36.Tags, x36.Until, x36.Uses, x36.Ready⟩ : T_api_Step))) else (bif (y39.1 : Int) == 3 then (bi (m_lanemake_Stream_Some y39.2 [[], [65], [97, 110, 110]]) fun y57 => bi (m_lanemake_Stream_Some y57.2 [[], [110, 97]]) fun y59 => some (y59.2, (y21.set y34.1.toNat (⟨x36.At, x36.Server, x36.No, x36.Kind, y57.1, x36.Node, x36.Join, x36.Public, x36.Name, x36.Tags, x36.Until, x36.Uses, x36.Ready⟩ : T_api_Step)).set y34.1.toNat (⟨(⟨x36.At, x36.Server, x36.No, x36.Kind, y57.1, x36.Node, x36.Join, x36.Public, x36.Name, x36.Tags, x36.Until, x36.Uses, x36.Ready⟩ : T_api_Step).At, (⟨x36.At, x36.Server, x36.No, x36.Kind, y57.1, x36.Node, x36.Join, x36.Public, x36.Name, x36.Tags, x36.Until, x36.Uses, x36.Ready⟩ : T_api_Step).Server, (⟨x36.At, x36.Server, x36.No, x36.Kind, y57.1, x36.Node, x36.Join, x36.Public, x36.Name, x36.Tags, x36.Until, x36.Uses, x36.Ready⟩ : T_api_Step).No, (⟨x36.At, x36.Server, x36.No, x36.Kind, y57.1, x36.Node, x36.Join, x36.Public, x36.Name, x36.Tags, x36.Until, x36.Uses, x36.Ready⟩ : T_api_Step).Kind, (⟨x36.At, x36.Server, x36.No, x36.Kind, y57.1, x36.Node, x36.Join, x36.Public, x36.Name, x36.Tags, x36.Until, x36.Uses, x36.Ready⟩ : T_api_Step).By, y59.1, (⟨x36.At, x36.Server, x36.No, x36.Kind, y57.1, x36.Node, x36.Join, x36.Public, x36.Name, x36.Tags, x36.Until, x36.Uses, x36.Ready⟩ : T_api_Step).Join, (⟨x36.At, x36.Server, x36.No, x36.Kind, y57.1, x36.Node, x36.Join, x36.Public, x36.Name, x36.Tags, x36.Until, x36.Uses, x36.Ready⟩ : T_api_Step).Public, (⟨x36.At, x36.Server, x36.No, x36.Kind, y57.1, x36.Node, x36.Join, x36.Public, x36.Name, x36.Tags, x36.Until, x36.Uses, x36.Ready⟩ : T_api_Step).Name, (⟨x36.At, x36.Server, x36.No, x36.Kind, y57.1, x36.Node, x36.Join, x36.Public, x36.Name, x36.Tags, x36.Until, x36.Uses, x36.Ready⟩ : T_api_Step).Tags, (⟨x36.At, x36.Server, x36.No, x36.Kind, y57.1, x36.Node, x36.Join, x36.Public, x36.Name, x36.Tags, x36.Until, x36.Uses, x36.Ready⟩ : T_api_Step).Until, (⟨x36.At, x36.Server, x36.No, x36.Kind, y57.1, x36.Node, x36.Join, x36.Public, x36.Name, x36.Tags, x36.Until, x36.Uses, x36.Ready⟩ : T_api_Step).Uses, (⟨x36.At, x36.Server, x36.No, x36.Kind, y57.1, x36.Node, x36.Join, x36.Public, x36.Name, x36.Tags, x36.Until, x36.Uses, x36.Ready⟩ : T_api_Step).Ready⟩ : T_api_Step))) else (bif (y39.1 : Int) == 4 then (bi (m_strings_Repeat [97] 21) fun y64 => bi (m_lanemake_Stream_Some y39.2 [[], [120, 121, 122], [48, 65], y64]) fun y66 => bi (m_lanemake_Stream_Pick y66.2 [0, -1, 1000000000]) fun y68 => some (y68.2, (y21.set y34.1.toNat (⟨x36.At, x36.Server, x36.No, x36.Kind, x36.By, x36.Node, x36.Join, y66.1, x36.Name, x36.Tags, x36.Until, x36.Uses, x36.Ready⟩ : T_api_Step)).set y34.1.toNat (⟨(⟨x36.At, x36.Server, x36.No, x36.Kind, x36.By, x36.Node, x36.Join, y66.1, x36.Name, x36.Tags, x36.Until, x36.Uses, x36.Ready⟩ : T_api_Step).At, (⟨x36.At, x36.Server, x36.No, x36.Kind, x36.By, x36.Node, x36.Join, y66.1, x36.Name, x36.Tags, x36.Until, x36.Uses, x36.Ready⟩ : T_api_Step).Server, (⟨x36.At, x36.Server, x36.No, x36.Kind, x36.By, x36.Node, x36.Join, y66.1, x36.Name, x36.Tags, x36.Until, x36.Uses, x36.Ready⟩ : T_api_Step).No, (⟨x36.At, x36.Server, x36.No, x36.Kind, x36.By, x36.Node, x36.Join, y66.1, x36.Name, x36.Tags, x36.Until, x36.Uses, x36.Ready⟩ : T_api_Step).Kind, (⟨x36.At, x36.Server, x36.No, x36.Kind, x36.By, x36.Node, x36.Join, y66.1, x36.Name, x36.Tags, x36.Until, x36.Uses, x36.Ready⟩ : T_api_Step).By, (⟨x36.At, x36.Server, x36.No, x36.Kind, x36.By, x36.Node, x36.Join, y66.1, x36.Name, x36.Tags, x36.Until, x36.Uses, x36.Ready⟩ : T_api_Step).Node, (⟨x36.At, x36.Server, x36.No, x36.Kind, x36.By, x36.Node, x36.Join, y66.1, x36.Name, x36.Tags, x36.Until, x36.Uses, x36.Ready⟩ : T_api_Step).Join, (⟨x36.At, x36.Server, x36.No, x36.Kind, x36.By, x36.Node, x36.Join, y66.1, x36.Name, x36.Tags, x36.Until, x36.Uses, x36.Ready⟩ : T_api_Step).Public, (⟨x36.At, x36.Server, x36.No, x36.Kind, x36.By, x36.Node, x36.Join, y66.1, x36.Name, x36.Tags, x36.Until, x36.Uses, x36.Ready⟩ : T_api_Step).Name, (⟨x36.At, x36.Server, x36.No, x36.Kind, x36.By, x36.Node, x36.Join, y66.1, x36.Name, x36.Tags, x36.Until, x36.Uses, x36.Ready⟩ : T_api_Step).Tags, y68.1, (⟨x36.At, x36.Server, x36.No, x36.Kind, x36.By, x36.Node, x36.Join, y66.1, x36.Name, x36.Tags, x36.Until, x36.Uses, x36.Ready⟩ : T_api_Step).Uses, (⟨x36.At, x36.Server, x36.No, x36.Kind, x36.By, x36.Node, x36.Join, y66.1, x36.Name, x36.Tags, x36.Until, x36.Uses, x36.Ready⟩ : T_api_Step).Ready⟩ : T_api_Step))) else (bi (m_lanemake_Stream_Next y39.2 3) fun y72 => bi (getZ [[[119, 101, 98], [100, 98]], [[]], [[97], [98]]] y72.1) fun x74 => some (y72.2, y21.set y34.1.toNat (⟨x36.At, x36.Server, x36.No, x36.Kind, x36.By, x36.Node, x36.Join, x36.Public, x36.Name, x74, x36.Until, x36.Uses, x36.Ready⟩ : T_api_Step)))))))) else (some (q25.1, y21))) fun q31 => some (q31.2, q31.1))

def m_laneref2_in (n : Int) (low : Int) (high : Int) : Option Bool :=
  some ((decide ((low : Int) ≤ n)) && (decide ((n : Int) ≤ high)))

def m_laneref2_only (s : Str) (v_some : Str) : Option Bool :=
  bi (m_strings_Trim s v_some) fun y1 => some ((y1 : Str) == [])

def m_laneref2_Key (s : Str) : Option Bool :=
  bi (m_laneref2_in (s.length : Int) 1 40) fun y1 => bi (bif y1 then (bi (subZ s 0 1) fun z6 => bi (m_laneref2_only z6 [97, 98, 99, 100, 101, 102, 103, 104, 105, 106, 107, 108, 109, 110, 111, 112, 113, 114, 115, 116, 117, 118, 119, 120, 121, 122]) fun y8 => some y8) else (some false)) fun q3 => bi (bif q3 then (bi (m_laneref2_only s [97, 98, 99, 100, 101, 102, 103, 104, 105, 106, 107, 108, 109, 110, 111, 112, 113, 114, 115, 116, 117, 118, 119, 120, 121, 122, 48, 49, 50, 51, 52, 53, 54, 55, 56, 57, 45, 95]) fun y14 => some y14) else (some false)) fun q11 => some q11

def m_laneref1_rising (l : List Str) : Option Int :=
  bi (rangeM (σ := Unit) (ρ := Int) (fun i1 x3 s2 => bi (m_laneref2_Key x3) fun y12 => bif !y12 then (bi (some 5) fun v => some (.out v)) else (bi (bif decide (((i1 : Int) : Int) > 0) then (bi (getZ l (wi ((i1 : Int) - 1))) fun x21 => some (Op.bytesLess x3 x21 || (x3 : Str) == x21)) else (some false)) fun q18 => bif q18 then (bi (some 7) fun v => some (.out v)) else (some (.go ())))) 0 l ()) fun q => goI q fun a6 => some 0

def m_slices_Index_string_string (s : List Str) (v : Str) : Option Int :=
  bi (rangeM (σ := Unit) (ρ := Int) (fun i1 x3 s2 => bif (v : Str) == x3 then (bi (some (i1 : Int)) fun v => some (.out v)) else (some (.go ()))) 0 s ()) fun q => goI q fun a6 => some (-1)

def m_slices_Contains_string_string (s : List Str) (v : Str) : Option Bool :=
  bi (m_slices_Index_string_string s v) fun y1 => some (decide ((y1 : Int) ≥ 0))

def m_laneref1_in (n : Int) (low : Int) (high : Int) : Option Bool :=
  some ((decide ((low : Int) ≤ n)) && (decide ((n : Int) ≤ high)))

def m_laneref1_DirectoryFault (d : T_api_Directory) : Option Int :=
  bif decide (((d.Users.length : Int) : Int) > 200) then (some 2) else (bi (m_laneref1_rising d.Users) fun y3 => bif (y3 : Int) != 0 then (some y3) else (bif decide (((d.Owners.length : Int) : Int) > 100) then (some 2) else (bi (rangeM (σ := Unit) (ρ := Int) (fun i9 x11 s10 => bi (m_laneref2_Key x11.Tag) fun y20 => bif !y20 then (bi (some 5) fun v => some (.out v)) else (bi (bif decide (((i9 : Int) : Int) > 0) then (bi (getZ d.Owners (wi ((i9 : Int) - 1))) fun x29 => some (Op.bytesLess x11.Tag x29.Tag || (x11.Tag : Str) == x29.Tag)) else (some false)) fun q26 => bif q26 then (bi (some 7) fun v => some (.out v)) else (bi (rangeM (σ := Unit) (ρ := LS Unit Int) (fun i36 x38 s37 => bi (m_slices_Contains_string_string d.Users x38) fun y47 => bif !y47 then (bi (bi (some 8) fun v => some (.out v)) fun v => some (.out v)) else (bi (bif decide (((i36 : Int) : Int) > 0) then (bi (getZ x11.Users (wi ((i36 : Int) - 1))) fun x58 => some (Op.bytesLess x38 x58 || (x38 : Str) == x58)) else (some false)) fun q55 => bif q55 then (bi (bi (some 7) fun v => some (.out v)) fun v => some (.out v)) else (some (.go ())))) 0 x11.Users ()) fun q => goI q fun a41 => some (.go ())))) 0 d.Owners ()) fun q => goI q fun a14 => bi (m_laneref1_in d.Life 1 345686400) fun y67 => bif !y67 then (some 1) else (some 0))))

def m_laneref2_Moment (v_at : Int) : Option Bool :=
  bi (m_laneref2_in v_at 0 345686399) fun y1 => some y1

def m_laneref1_uses (kind : Int) : Option Str :=
  bi (getZ [[], [98, 106, 116, 117, 115, 114], [98, 106], [66, 110, 74, 112, 109], [98, 110], [98, 110, 112], [98, 110, 109], [98, 110, 116], [98, 110], [98, 110]] kind) fun x1 => some x1

def m_laneref1_keyFault (s : Str) : Option Int :=
  bi (m_laneref2_Key s) fun y1 => bif !y1 then (some 5) else (some 0)

def m_laneref1_PublicForm (s : Str) : Option Bool :=
  bi (m_laneref1_in (s.length : Int) 1 20) fun y1 => bi (bif y1 then (bi (m_strings_Trim s [48, 49, 50, 51, 52, 53, 54, 55, 56, 57, 97, 98, 99, 100, 101, 102]) fun y6 => some ((y6 : Str) == [])) else (some false)) fun q3 => some q3

def m_laneref1_fieldFault (s : T_api_Step) (c : Int) : Option Int :=
  bi (bi (bif (c : Int) == 98 then (some ((c : Int) == 98)) else (bif (c : Int) == 110 then (some ((c : Int) == 110)) else (bif (c : Int) == 106 then (some ((c : Int) == 106)) else (some ((c : Int) == 109))))) fun q4 => bif q4 then (bi (m_laneref1_keyFault ((mGet (mSet (mSet (mSet (mSet ([] : List (Int × Str)) 98 s.By) 110 s.Node) 106 s.Join) 109 s.Name) c).getD [])) fun y13 => bi (some y13) fun v => some (.inr v)) else (bi (bif (c : Int) == 66 then (some ((c : Int) == 66)) else (some ((c : Int) == 74))) fun q18 => bif q18 then (bif !((((mGet (mSet (mSet ([] : List (Int × Str)) 66 s.By) 74 s.Join) c).getD []) : Str) == []) then (bi (m_laneref1_keyFault ((mGet (mSet (mSet ([] : List (Int × Str)) 66 s.By) 74 s.Join) c).getD [])) fun y24 => bi (some y24) fun v => some (.inr v)) else (some (.inl ()))) else (bif (c : Int) == 112 then (bi (m_laneref1_PublicForm s.Public) fun y31 => bif !y31 then (bi (some 5) fun v => some (.inr v)) else (some (.inl ()))) else (bif (c : Int) == 116 then (bif decide (((s.Tags.length : Int) : Int) > 10) then (bi (some 2) fun v => some (.inr v)) else (bi (m_laneref1_rising s.Tags) fun y43 => bi (some y43) fun v => some (.inr v))) else (bi (bif (c : Int) == 117 then (some ((c : Int) == 117)) else (some ((c : Int) == 115))) fun q48 => bif q48 then (bi (m_laneref1_in ((mGet (mSet (mSet ([] : List (Int × Int)) 117 s.Until) 115 s.Uses) c).getD 0) 0 999999999) fun y53 => bif !y53 then (bi (some 1) fun v => some (.inr v)) else (some (.inl ()))) else (some (.inl ())))))) : Option (Unit ⊕ Int)) fun q => orI q fun a3 => some 0

def m_laneref1_stepFault (s : T_api_Step) : Option Int :=
  bi (m_laneref2_Moment s.At) fun y1 => bif !y1 then (some 1) else (bi (m_laneref2_Key s.Server) fun y5 => bif !y5 then (some 5) else (bi (m_laneref1_in s.No 1 1000000) fun y9 => bif !y9 then (some 1) else (bi (m_laneref1_in s.Kind 1 9) fun y13 => bif !y13 then (some 4) else (bi (m_laneref1_uses s.Kind) fun y17 => gd (asc y17) (bi (rangeM (σ := Unit) (ρ := Int) (fun sn23 x22 s21 => bi (m_laneref1_fieldFault s (x22.toNat : Int)) fun y63 => bif (y63 : Int) != 0 then (bi (some y63) fun v => some (.out v)) else (some (.go ()))) 0 y17 ()) fun q => goI q fun s21 => bi (m_laneref1_uses s.Kind) fun y30 => bi (m_strings_ToLower y30) fun y32 => bi (rangePM (σ := Unit) (ρ := Int) (fun x41 s40 => bi (bif !x41.2 then (bi (m_strings_IndexByte y32 x41.1) fun y54 => some (decide ((y54 : Int) < 0))) else (some false)) fun q51 => bif q51 then (bi (some 3) fun v => some (.out v)) else (some (.go ()))) (mSet (mSet (mSet (mSet (mSet (mSet (mSet (mSet (mSet ([] : List (Int × Bool)) 98 ((s.By : Str) == [])) 110 ((s.Node : Str) == [])) 106 ((s.Join : Str) == [])) 112 ((s.Public : Str) == [])) 109 ((s.Name : Str) == [])) 116 (((s.Tags.length : Int) : Int) == 0)) 117 ((s.Until : Int) == 0)) 115 ((s.Uses : Int) == 0)) 114 (!s.Ready)) ()) fun q => goI q fun s40 => some 0)))))

def m_laneref1_StepsFault_1 (x : T_api_Step) (x2 : T_api_Step) : Option Bool :=
  some (((x.Server : Str) == x2.Server) && ((x.No : Int) == x2.No))

def m_slices_IndexFunc_api_Step_api_Step (s : List T_api_Step) (f : T_api_Step) : Option Int :=
  bi (rangeM (σ := Unit) (ρ := Int) (fun i1 x3 s2 => bi (m_laneref1_StepsFault_1 x3 f) fun y12 => bif y12 then (bi (some (i1 : Int)) fun v => some (.out v)) else (some (.go ()))) 0 s ()) fun q => goI q fun a6 => some (-1)

def m_slices_ContainsFunc_api_Step_api_Step (s : List T_api_Step) (f : T_api_Step) : Option Bool :=
  bi (m_slices_IndexFunc_api_Step_api_Step s f) fun y1 => some (decide ((y1 : Int) ≥ 0))

def m_laneref1_StepsFault (l : List T_api_Step) : Option Int :=
  bif decide (((l.length : Int) : Int) > 2000) then (some 2) else (bi (rangeM (σ := Unit) (ρ := Int) (fun i3 x5 s4 => bi (m_laneref1_stepFault x5) fun y14 => bif (y14 : Int) != 0 then (bi (some y14) fun v => some (.out v)) else (bi (bif decide (((i3 : Int) : Int) > 0) then (bi (getZ l (wi ((i3 : Int) - 1))) fun x23 => bi (m_laneref1_StepOrder x23 x5) fun y25 => some (decide ((y25 : Int) ≥ 0))) else (some false)) fun q20 => bif q20 then (bi (some 7) fun v => some (.out v)) else (bi (subZ l 0 (i3 : Int)) fun z32 => bi (m_slices_ContainsFunc_api_Step_api_Step z32 x5) fun y34 => bif y34 then (bi (some 6) fun v => some (.out v)) else (some (.go ()))))) 0 l ()) fun q => goI q fun a8 => some 0)

def m_cmp_Or_api_Errno (vals : List Int) : Option Int :=
  bi (rangeM (σ := Unit) (ρ := Int) (fun i1 x3 s2 => bif (x3 : Int) != 0 then (bi (some x3) fun v => some (.out v)) else (some (.go ()))) 0 vals ()) fun q => goI q fun a6 => some 0

def m_lanelaw1_yardOf (k : Nat) (s : T_lanemake_Stream) (many : Int) : Option (T_lanelaw1_yard × T_lanemake_Stream) :=
  bi (m_lanemake_Stream_Directory (⟨s.L, s.v_at⟩ : T_lanemake_Stream)) fun y1 => bi (m_lanemake_Stream_Steps k y1.2 many) fun y3 => bi (m_laneref1_DirectoryFault y1.1) fun y5 => bi (m_laneref1_StepsFault y3.1) fun y7 => bi (m_cmp_Or_api_Errno [y5, y7]) fun y9 => some ((⟨y1.1, y3.1, y9⟩ : T_lanelaw1_yard), y3.2)

def m_slices_Clone_api_Step_api_Step (s : List T_api_Step) : Option (List T_api_Step) :=
  bi (apd ([] : List T_api_Step) s) fun y1 => some y1

def m_kit_IsKey (k : Nat) (s : Str) : Option Bool :=
  bi (loopM (σ := Int) (ρ := Unit ⊕ Bool) (fun s2 => bif decide ((s2 : Int) < (s.length : Int)) then (bi (getZ s s2) fun c12 => bif !(((decide (((c12.toNat : Int) : Int) ≥ 97)) && (decide (((c12.toNat : Int) : Int) ≤ 122))) || ((decide ((s2 : Int) > 0)) && ((((decide (((c12.toNat : Int) : Int) ≥ 48)) && (decide (((c12.toNat : Int) : Int) ≤ 57))) || (((c12.toNat : Int) : Int) == 45)) || (((c12.toNat : Int) : Int) == 95)))) then (bi (some false) fun v => some (.out (.inr v))) else (some (.go (wi (s2 + 1))))) else (some (.out (.inl ())))) k 0) fun q => orI q fun a6 => some ((!((s : Str) == [])) && (decide (((s.length : Int) : Int) ≤ 40)))

def m_kit_RisingFault (k : Nat) (l : List Str) : Option Int :=
  bi (rangeM (σ := Unit) (ρ := Int) (fun i1 x3 s2 => bi (m_kit_IsKey k x3) fun y12 => bif !y12 then (bi (some 5) fun v => some (.out v)) else (bi (bif decide (((i1 : Int) : Int) > 0) then (bi (getZ l (wi ((i1 : Int) - 1))) fun x21 => some (Op.bytesLess x3 x21 || (x3 : Str) == x21)) else (some false)) fun q18 => bif q18 then (bi (some 7) fun v => some (.out v)) else (some (.go ())))) 0 l ()) fun q => goI q fun a6 => some 0

def m_kit_Outside (n : Int) (low : Int) (high : Int) : Option Bool :=
  some ((decide ((n : Int) < low)) || (decide ((n : Int) > high)))

def m_node_CheckDirectory (k : Nat) (d : T_api_Directory) : Option Int :=
  bif decide (((d.Users.length : Int) : Int) > 200) then (some 2) else (bi (m_kit_RisingFault k d.Users) fun y3 => bif (y3 : Int) != 0 then (some y3) else (bif decide (((d.Owners.length : Int) : Int) > 100) then (some 2) else (bi (rangeM (σ := Unit) (ρ := Int) (fun i9 x11 s10 => bi (m_kit_IsKey k x11.Tag) fun y20 => bif !y20 then (bi (some 5) fun v => some (.out v)) else (bi (bif decide (((i9 : Int) : Int) > 0) then (bi (getZ d.Owners (wi ((i9 : Int) - 1))) fun x29 => some (Op.bytesLess x11.Tag x29.Tag || (x11.Tag : Str) == x29.Tag)) else (some false)) fun q26 => bif q26 then (bi (some 7) fun v => some (.out v)) else (bi (rangeM (σ := Unit) (ρ := LS Unit Int) (fun i36 x38 s37 => bi (m_slices_Contains_string_string d.Users x38) fun y47 => bif !y47 then (bi (bi (some 8) fun v => some (.out v)) fun v => some (.out v)) else (bi (bif decide (((i36 : Int) : Int) > 0) then (bi (getZ x11.Users (wi ((i36 : Int) - 1))) fun x58 => some (Op.bytesLess x38 x58 || (x38 : Str) == x58)) else (some false)) fun q55 => bif q55 then (bi (bi (some 7) fun v => some (.out v)) fun v => some (.out v)) else (some (.go ())))) 0 x11.Users ()) fun q => goI q fun a41 => some (.go ())))) 0 d.Owners ()) fun q => goI q fun a14 => bi (m_kit_Outside d.Life 1 345686400) fun y67 => bif y67 then (some 1) else (some 0))))

def m_node_owns_1 (o : T_api_Owner) (x : Str) : Option Bool :=
  some ((o.Tag : Str) == x)

def m_slices_IndexFunc_api_Owner_api_Owner (s : List T_api_Owner) (f : Str) : Option Int :=
  bi (rangeM (σ := Unit) (ρ := Int) (fun i1 x3 s2 => bi (m_node_owns_1 x3 f) fun y12 => bif y12 then (bi (some (i1 : Int)) fun v => some (.out v)) else (some (.go ()))) 0 s ()) fun q => goI q fun a6 => some (-1)

def m_node_owns (d : T_api_Directory) (user : Str) (tag : Str) : Option (Bool × Bool) :=
  bi (m_slices_IndexFunc_api_Owner_api_Owner d.Owners tag) fun y1 => bi (bif decide ((y1 : Int) ≥ 0) then (bi (getZ d.Owners y1) fun x6 => bi (m_slices_Contains_string_string x6.Users user) fun y8 => some y8) else (some false)) fun q3 => some (q3, decide ((y1 : Int) ≥ 0))

def m_node_Owns (k : Nat) (d : T_api_Directory) (user : Str) (tag : Str) : Option (Bool × Int) :=
  bi (m_node_CheckDirectory k d) fun y1 => bif (y1 : Int) != 0 then (some (false, y1)) else (bi (m_node_owns d user tag) fun y5 => bi (m_slices_Contains_string_string d.Users user) fun y7 => bif ((!y7) || (!y5.2)) then (some (false, 8)) else (some (y5.1, 0)))

def m_laneref1_ownersOf (d : T_api_Directory) (tag : Str) : Option ((List Str) × Bool) :=
  bi (rangeM (σ := Unit) (ρ := (List Str) × Bool) (fun i1 x3 s2 => bif (x3.Tag : Str) == tag then (bi (some (x3.Users, true)) fun v => some (.out v)) else (some (.go ()))) 0 d.Owners ()) fun q => goI q fun a6 => some ([], false)

def m_laneref1_OwnsOf (d : T_api_Directory) (user : Str) (tag : Str) : Option (Bool × Int) :=
  bi (m_slices_Contains_string_string d.Users user) fun y1 => bif !y1 then (some (false, 8)) else (bi (m_laneref1_ownersOf d tag) fun y5 => bif !y5.2 then (some (false, 8)) else (bi (m_slices_Contains_string_string y5.1 user) fun y9 => some (y9, 0)))

def m_kit_IsMoment (n : Int) : Option Bool :=
  some ((decide ((n : Int) ≥ 0)) && (decide ((n : Int) < 345686400)))

def m_node_fieldsOf (kind : Int) : Option (List Int) :=
  bif (kind : Int) == 1 then (some [0, 2, 5, 6, 7, 8]) else (bif (kind : Int) == 2 then (some [0, 2]) else (bif (kind : Int) == 3 then (some [0, 1, 2, 3, 4]) else (bif (kind : Int) == 5 then (some [0, 1, 3]) else (bif (kind : Int) == 6 then (some [0, 1, 4]) else (bif (kind : Int) == 7 then (some [0, 1, 5]) else (some [0, 1]))))))

def m_node_keyFault (k : Nat) (s : Str) (empty : Bool) : Option Int :=
  bi (m_kit_IsKey k s) fun y1 => bif ((!y1) && (!(empty && ((s : Str) == [])))) then (some 5) else (some 0)

def m_node_isPublic (s : Str) : Option Bool :=
  bi (bif ((!((s : Str) == [])) && (decide (((s.length : Int) : Int) ≤ 20))) then (bi (m_strings_Trim s [48, 49, 50, 51, 52, 53, 54, 55, 56, 57, 97, 98, 99, 100, 101, 102]) fun y4 => some ((y4 : Str) == [])) else (some false)) fun q1 => some q1

def m_node_tagsFault (k : Nat) (l : List Str) : Option Int :=
  bif decide (((l.length : Int) : Int) > 10) then (some 2) else (bi (m_kit_RisingFault k l) fun y3 => some y3)

def m_node_numberFault (n : Int) : Option Int :=
  bi (m_kit_Outside n 0 999999999) fun y1 => bif y1 then (some 1) else (some 0)

def m_node_fieldFault (k : Nat) (s : T_api_Step) (field : Int) : Option Int :=
  bi (bif (field : Int) == 0 then (bi (m_node_keyFault k s.By ((s.Kind : Int) == 3)) fun y5 => bi (some y5) fun v => some (.inr v)) else (bif (field : Int) == 1 then (bi (m_node_keyFault k s.Node false) fun y11 => bi (some y11) fun v => some (.inr v)) else (bif (field : Int) == 2 then (bi (m_node_keyFault k s.Join ((s.Kind : Int) == 3)) fun y17 => bi (some y17) fun v => some (.inr v)) else (bif (field : Int) == 3 then (bi (m_node_isPublic s.Public) fun y23 => bif !y23 then (bi (some 5) fun v => some (.inr v)) else (some (.inl ()))) else (bif (field : Int) == 4 then (bi (m_node_keyFault k s.Name false) fun y31 => bi (some y31) fun v => some (.inr v)) else (bif (field : Int) == 5 then (bi (m_node_tagsFault k s.Tags) fun y37 => bi (some y37) fun v => some (.inr v)) else (bif (field : Int) == 6 then (bi (m_node_numberFault s.Until) fun y43 => bi (some y43) fun v => some (.inr v)) else (bif (field : Int) == 7 then (bi (m_node_numberFault s.Uses) fun y49 => bi (some y49) fun v => some (.inr v)) else (some (.inl ()))))))))) : Option (Unit ⊕ Int)) fun q => orI q fun a3 => some 0

def m_slices_Index_int_int (s : List Int) (v : Int) : Option Int :=
  bi (rangeM (σ := Unit) (ρ := Int) (fun i1 x3 s2 => bif (v : Int) == x3 then (bi (some (i1 : Int)) fun v => some (.out v)) else (some (.go ()))) 0 s ()) fun q => goI q fun a6 => some (-1)

def m_slices_Contains_int_int (s : List Int) (v : Int) : Option Bool :=
  bi (m_slices_Index_int_int s v) fun y1 => some (decide ((y1 : Int) ≥ 0))

def m_node_idle (s : T_api_Step) (field : Int) : Option Bool :=
  bif (field : Int) == 0 then (some ((s.By : Str) == [])) else (bif (field : Int) == 1 then (some ((s.Node : Str) == [])) else (bif (field : Int) == 2 then (some ((s.Join : Str) == [])) else (bif (field : Int) == 3 then (some ((s.Public : Str) == [])) else (bif (field : Int) == 4 then (some ((s.Name : Str) == [])) else (bif (field : Int) == 5 then (some (((s.Tags.length : Int) : Int) == 0)) else (bif (field : Int) == 6 then (some ((s.Until : Int) == 0)) else (bif (field : Int) == 7 then (some ((s.Uses : Int) == 0)) else (some (!s.Ready)))))))))

def m_node_formFault (k : Nat) (s : T_api_Step) : Option Int :=
  bi (m_kit_IsMoment s.At) fun y1 => bif !y1 then (some 1) else (bi (m_kit_IsKey k s.Server) fun y5 => bif !y5 then (some 5) else (bi (m_kit_Outside s.No 1 1000000) fun y9 => bif y9 then (some 1) else (bi (m_kit_Outside s.Kind 1 9) fun y13 => bif y13 then (some 4) else (bi (m_node_fieldsOf s.Kind) fun y17 => bi (rangeM (σ := Unit) (ρ := Int) (fun i19 x21 s20 => bi (m_node_fieldFault k s x21) fun y30 => bif (y30 : Int) != 0 then (bi (some y30) fun v => some (.out v)) else (some (.go ()))) 0 y17 ()) fun q => goI q fun a24 => bi (loopM (σ := Int) (ρ := Unit ⊕ Int) (fun s37 => bif decide ((s37 : Int) < 9) then (bi (m_slices_Contains_int_int y17 s37) fun y47 => bi (bif !y47 then (bi (m_node_idle s s37) fun y52 => some (!y52)) else (some false)) fun q49 => bif q49 then (bi (some 3) fun v => some (.out (.inr v))) else (some (.go (wi (s37 + 1))))) else (some (.out (.inl ())))) k 0) fun q => orI q fun a41 => some 0))))

def m_node_compareSteps (a : T_api_Step) (b : T_api_Step) : Option Int :=
  bi (m_cmp_Compare_int a.At b.At) fun y1 => bi (m_strings_Compare a.Server b.Server) fun y3 => bi (m_cmp_Compare_int a.No b.No) fun y5 => bi (m_cmp_Or_int [y1, y3, y5]) fun y7 => some y7

def m_node_originOf (s : T_api_Step) : Option T_node_origin :=
  some (⟨s.Server, s.No⟩ : T_node_origin)

def m_node_Check (k : Nat) (l : List T_api_Step) : Option Int :=
  bif decide (((l.length : Int) : Int) > 2000) then (some 2) else (bi (rangeM (σ := List (T_node_origin × Bool)) (ρ := Int) (fun i3 x5 s4 => bi (m_node_formFault k x5) fun y14 => bif (y14 : Int) != 0 then (bi (some y14) fun v => some (.out v)) else (bi (bif decide (((i3 : Int) : Int) > 0) then (bi (getZ l (wi ((i3 : Int) - 1))) fun x23 => bi (m_node_compareSteps x23 x5) fun y25 => some (decide ((y25 : Int) ≥ 0))) else (some false)) fun q20 => bif q20 then (bi (some 7) fun v => some (.out v)) else (bi (m_node_originOf x5) fun y32 => bif ((mGet s4 y32).getD false) then (bi (some 6) fun v => some (.out v)) else (bi (m_node_originOf x5) fun y38 => some (.go (mSet s4 y38 true)))))) 0 l ([] : List (T_node_origin × Bool))) fun q => goI q fun a8 => some 0)

def m_slices_Equal_string_string (s1 : List Str) (s2 : List Str) : Option Bool :=
  bif ((s1.length : Int) : Int) != (s2.length : Int) then (some false) else (bi (rangeM (σ := Unit) (ρ := Bool) (fun i3 x5 s4 => bi (getZ s2 (i3 : Int)) fun x14 => bif !((x5 : Str) == x14) then (bi (some false) fun v => some (.out v)) else (some (.go ()))) 0 s1 ()) fun q => goI q fun a8 => some true)

def m_node_same (a : T_api_Step) (b : T_api_Step) : Option Bool :=
  bi (bif (a.At : Int) == b.At then (bi (m_node_originOf a) fun y4 => bi (m_node_originOf b) fun y6 => bif (((y4.server : Str) == y6.server) && (((y4.no : Int) == y6.no) && true)) then (bif (a.Kind : Int) == b.Kind then (bif (a.By : Str) == b.By then (bif (a.Node : Str) == b.Node then (bif (a.Join : Str) == b.Join then (bif (a.Public : Str) == b.Public then (bif (a.Name : Str) == b.Name then (bi (m_slices_Equal_string_string a.Tags b.Tags) fun y15 => bif y15 then (bif (a.Until : Int) == b.Until then (bif (a.Uses : Int) == b.Uses then (some ((a.Ready : Bool) == b.Ready)) else (some false)) else (some false)) else (some false)) else (some false)) else (some false)) else (some false)) else (some false)) else (some false)) else (some false)) else (some false)) else (some false)) fun q1 => some q1

def m_slices_Clone_string_string (s : List Str) : Option (List Str) :=
  bi (apd ([] : List Str) s) fun y1 => some y1

def m_node_cloneStep (s : T_api_Step) : Option T_api_Step :=
  bi (m_slices_Clone_string_string s.Tags) fun y1 => some (⟨s.At, s.Server, s.No, s.Kind, s.By, s.Node, s.Join, s.Public, s.Name, y1, s.Until, s.Uses, s.Ready⟩ : T_api_Step)

def m_math_bits_Len64 (x : Int) : Option Int :=
  bi (bif decide ((x : Int) ≥ 4294967296) then (some (shrV .u64 x 32, 32)) else (some (x, 0))) fun q1 => bi (bif decide ((q1.1 : Int) ≥ 65536) then (some (shrV .u64 q1.1 16, wi (q1.2 + 16))) else (some (q1.1, q1.2))) fun q5 => bi (bif decide ((q5.1 : Int) ≥ 256) then (some (shrV .u64 q5.1 8, wi (q5.2 + 8))) else (some (q5.1, q5.2))) fun q9 => bi (getZ ([0, 1, 2, 2, 3, 3, 3, 3, 4, 4, 4, 4, 4, 4, 4, 4, 5, 5, 5, 5, 5, 5, 5, 5, 5, 5, 5, 5, 5, 5, 5, 5, 6, 6, 6, 6, 6, 6, 6, 6, 6, 6, 6, 6, 6, 6, 6, 6, 6, 6, 6, 6, 6, 6, 6, 6, 6, 6, 6, 6, 6, 6, 6, 6, 7, 7, 7, 7, 7, 7, 7, 7, 7, 7, 7, 7, 7, 7, 7, 7, 7, 7, 7, 7, 7, 7, 7, 7, 7, 7, 7, 7, 7, 7, 7, 7, 7, 7, 7, 7, 7, 7, 7, 7, 7, 7, 7, 7, 7, 7, 7, 7, 7, 7, 7, 7, 7, 7, 7, 7, 7, 7, 7, 7, 7, 7, 7, 7, 8, 8, 8, 8, 8, 8, 8, 8, 8, 8, 8, 8, 8, 8, 8, 8, 8, 8, 8, 8, 8, 8, 8, 8, 8, 8, 8, 8, 8, 8, 8, 8, 8, 8, 8, 8, 8, 8, 8, 8, 8, 8, 8, 8, 8, 8, 8, 8, 8, 8, 8, 8, 8, 8, 8, 8, 8, 8, 8, 8, 8, 8, 8, 8, 8, 8, 8, 8, 8, 8, 8, 8, 8, 8, 8, 8, 8, 8, 8, 8, 8, 8, 8, 8, 8, 8, 8, 8, 8, 8, 8, 8, 8, 8, 8, 8, 8, 8, 8, 8, 8, 8, 8, 8, 8, 8, 8, 8, 8, 8, 8, 8, 8, 8, 8, 8, 8, 8, 8, 8, 8, 8, 8, 8, 8, 8, 8, 8] : Str) (IntKind.u8.wrap (q9.1))) fun c13 => some (wi (q9.2 + (wi ((c13.toNat : Int)))))

def m_math_bits_Len (x : Int) : Option Int :=
  bi (m_math_bits_Len64 x) fun y1 => some y1

def m_slices_insertionSortCmpFunc_api_Step_2 (k : Nat) (data : List T_api_Step) (a : Int) (b : Int) : Option (List T_api_Step) :=
  bi (loopM (σ := (List T_api_Step) × Int) (ρ := List T_api_Step) (fun s2 => bif decide ((s2.2 : Int) < b) then (bi (loopM (σ := (List T_api_Step) × Int) (ρ := List T_api_Step) (fun s13 => bi (bif decide ((s13.2 : Int) > a) then (bi (getZ s13.1 s13.2) fun x25 => bi (getZ s13.1 (wi (s13.2 - 1))) fun x28 => bi (m_node_compareSteps x25 x28) fun y31 => some (decide ((y31 : Int) < 0))) else (some false)) fun q22 => bif q22 then (bi (getZ s13.1 (wi (s13.2 - 1))) fun x35 => bi (getZ s13.1 s13.2) fun x38 => bi (getZ s13.1 s13.2) fun x41 => bi (getZ s13.1 (wi (s13.2 - 1))) fun x44 => bi (getZ (s13.1.set s13.2.toNat x35) (((wi (s13.2 - 1)).toNat : Nat) : Int)) fun x47 => some (.go ((s13.1.set s13.2.toNat x35).set ((wi (s13.2 - 1)).toNat) x38, wi (s13.2 - 1)))) else (some (.out s13.1))) k (s2.1, s2.2)) fun q15 => some (.go (q15, wi (s2.2 + 1)))) else (some (.out s2.1))) k (data, wi (a + 1))) fun q4 => some q4

def m_slices_pdqsortCmpFunc_api_Step (k : Nat) (data : List T_api_Step) (a : Int) (b : Int) (limit : Int) : Option (List T_api_Step) :=
  bi (loopM (σ := Unit) (ρ := List T_api_Step) (fun s2 => bif decide ((wi (b - a) : Int) ≤ 12) then (bi (m_slices_insertionSortCmpFunc_api_Step_2 k data a b) fun y12 => bi (some y12) fun v => some (.out v)) else (bif (limit : Int) == 0 then none else none)) k ()) fun v => some v

def m_slices_SortFunc_api_Step_api_Step (k : Nat) (x : List T_api_Step) : Option (List T_api_Step) :=
  bi (m_math_bits_Len (IntKind.u64.wrap ((x.length : Int)))) fun y1 => bi (m_slices_pdqsortCmpFunc_api_Step k x 0 (x.length : Int) y1) fun y3 => some y3

def m_node_Merge (k : Nat) (a : List T_api_Step) (b : List T_api_Step) : Option ((List T_api_Step) × Int) :=
  bi (loopM (σ := Int) (ρ := Unit ⊕ ((List T_api_Step) × Int)) (fun s2 => bif decide ((s2 : Int) < 2) then (bi (getZ ([a, b] : List (List T_api_Step)) s2) fun x12 => bi (m_node_Check k x12) fun y14 => bif (y14 : Int) != 0 then (bi (some ([], y14)) fun v => some (.out (.inr v))) else (some (.go (wi (s2 + 1))))) else (some (.out (.inl ())))) k 0) fun q => orI q fun a6 => bi (loopM (σ := (List (T_node_origin × T_api_Step)) × (List T_api_Step) × Int) (ρ := ((List (T_node_origin × T_api_Step)) × (List T_api_Step)) ⊕ ((List T_api_Step) × Int)) (fun s22 => bif decide ((s22.2.2 : Int) < 2) then (bi (getZ ([a, b] : List (List T_api_Step)) s22.2.2) fun x32 => bi (rangeM (σ := (List (T_node_origin × T_api_Step)) × (List T_api_Step)) (ρ := LS ((List (T_node_origin × T_api_Step)) × (List T_api_Step) × Int) (((List (T_node_origin × T_api_Step)) × (List T_api_Step)) ⊕ ((List T_api_Step) × Int))) (fun i34 x36 s35 => bi (m_node_originOf x36) fun y45 => bi (bif (mGet s35.1 y45).isSome then (bi (m_node_same ((mGet s35.1 y45).getD (⟨0, [], 0, 0, [], [], [], [], [], [], 0, 0, false⟩ : T_api_Step)) x36) fun y50 => some (!y50)) else (some false)) fun q47 => bif q47 then (bi (bi (some ([], 13)) fun v => some (.out (.inr v))) fun v => some (.out v)) else (bif !((mGet s35.1 y45).isSome) then (bi (m_node_originOf x36) fun y60 => bi (m_node_cloneStep x36) fun y62 => bi (apd s35.2 [y62]) fun y64 => some (.go ((mSet s35.1 y60 x36), y64))) else (some (.go (s35.1, s35.2))))) 0 x32 (s22.1, s22.2.1)) fun q => goI q fun a39 => some (.go (a39.1, a39.2, wi (s22.2.2 + 1)))) else (some (.out (.inl (s22.1, s22.2.1))))) k (([] : List (T_node_origin × T_api_Step)), ([] : List T_api_Step), 0)) fun q => orI q fun a26 => bif decide (((a26.2.length : Int) : Int) > 2000) then (some ([], 2)) else (bi (m_slices_SortFunc_api_Step_api_Step k a26.2) fun y70 => gd (decide (y70.length = a26.2.length)) (some (y70, 0)))

def m_lanelaw1_noded (k : Nat) : Option Bool :=
  bi (m_node_Owns k (⟨[[97]], [(⟨[116], [[97]]⟩ : T_api_Owner)], 1, false⟩ : T_api_Directory) [97] [116]) fun y1 => some (((y1.2 : Int) == 0) && y1.1)

def m_laneref1_StepsMerged_1 (x : T_api_Step) (x2 : T_api_Step) : Option Bool :=
  some (((x.Server : Str) == x2.Server) && ((x.No : Int) == x2.No))

def m_slices_IndexFunc_api_Step_api_Step_2 (s : List T_api_Step) (f : T_api_Step) : Option Int :=
  bi (gd (decide ((s.length : Int) ≤ 9223372036854775807)) (rangeI (σ := Unit) (ρ := Int) (fun i1 s2 => bi (getZ s (i1 : Int)) fun x13 => bi (m_laneref1_StepsMerged_1 x13 f) fun y16 => bif y16 then (bi (some (i1 : Int)) fun v => some (.out v)) else (some (.go ()))) (s.length : Int) ())) fun q => goI q fun a6 => some (-1)

def m_laneref1_SameStep (a : T_api_Step) (b : T_api_Step) : Option Bool :=
  bi (m_slices_Equal_string_string a.Tags b.Tags) fun y1 => bif !y1 then (some false) else (some (((((((((((((a.At : Int) == b.At) && ((a.Server : Str) == b.Server)) && ((a.No : Int) == b.No)) && ((a.Kind : Int) == b.Kind)) && ((a.By : Str) == b.By)) && ((a.Node : Str) == b.Node)) && ((a.Join : Str) == b.Join)) && ((a.Public : Str) == b.Public)) && ((a.Name : Str) == b.Name)) && ((a.Until : Int) == b.Until)) && ((a.Uses : Int) == b.Uses)) && ((a.Ready : Bool) == b.Ready)))

def m_slices_pdqsortCmpFunc_api_Step_2 (k : Nat) (data : List T_api_Step) (a : Int) (b : Int) (limit : Int) : Option (List T_api_Step) :=
  bi (loopM (σ := Unit) (ρ := List T_api_Step) (fun s2 => bif decide ((wi (b - a) : Int) ≤ 12) then (bi (m_slices_insertionSortCmpFunc_api_Step k data a b) fun y12 => bi (some y12) fun v => some (.out v)) else (bif (limit : Int) == 0 then none else none)) k ()) fun v => some v

def m_slices_SortFunc_api_Step_api_Step_2 (k : Nat) (x : List T_api_Step) : Option (List T_api_Step) :=
  bi (m_math_bits_Len (IntKind.u64.wrap ((x.length : Int)))) fun y1 => bi (m_slices_pdqsortCmpFunc_api_Step_2 k x 0 (x.length : Int) y1) fun y3 => some y3

def m_laneref1_StepsMerged (k : Nat) (a : List T_api_Step) (b : List T_api_Step) : Option ((List T_api_Step) × Int) :=
  bi (m_slices_Clone_api_Step_api_Step a) fun y1 => bi (rangeM (σ := List T_api_Step) (ρ := (List T_api_Step) × Int) (fun i3 x5 s4 => bi (m_slices_IndexFunc_api_Step_api_Step_2 s4 x5) fun y14 => bif decide ((y14 : Int) < 0) then (bi (apd s4 [x5]) fun y17 => some (.go y17)) else (bi (getZ s4 y14) fun x20 => bi (m_laneref1_SameStep x20 x5) fun y23 => bif !y23 then (bi (some ([], 13)) fun v => some (.out v)) else (some (.go s4)))) 0 b y1) fun q => goI q fun a8 => bif decide (((a8.length : Int) : Int) > 2000) then (some ([], 2)) else (bi (m_slices_SortFunc_api_Step_api_Step_2 k a8) fun y31 => gd (decide (y31.length = a8.length)) (some (y31, 0)))

def m_slices_EqualFunc_api_Step_api_Step_api_Step_api_Step (s1 : List T_api_Step) (s2 : List T_api_Step) : Option Bool :=
  bif ((s1.length : Int) : Int) != (s2.length : Int) then (some false) else (bi (rangeM (σ := Unit) (ρ := Bool) (fun i3 x5 s4 => bi (getZ s2 (i3 : Int)) fun x14 => bi (m_laneref1_SameStep x5 x14) fun y16 => bif !y16 then (bi (some false) fun v => some (.out v)) else (some (.go ()))) 0 s1 ()) fun q => goI q fun a8 => some true)

def m_laneref1_SameSteps (a : List T_api_Step) (b : List T_api_Step) : Option Bool :=
  bi (m_slices_EqualFunc_api_Step_api_Step_api_Step_api_Step a b) fun y1 => some y1

def m_lanelaw1_StepsCheck (k : Nat) (l : List Int) : Option Bool :=
  bi (m_lanemake_Stream_Range (⟨l, 0⟩ : T_lanemake_Stream) 0 7) fun y1 => bi (m_lanelaw1_yardOf k y1.2 y1.1) fun y3 => bi (m_lanemake_Stream_User y3.2) fun y5 => bi (m_lanemake_Stream_Some y5.2 [[119, 101, 98], [100, 98], [110, 111, 110, 101]]) fun y7 => bi (m_lanemake_Stream_Range y7.2 0 4) fun y9 => bi (m_lanemake_Stream_Steps k y9.2 y9.1) fun y11 => bi (bif decide (((y3.1.l.length : Int) : Int) > 0) then (bi (m_lanemake_Stream_Flip y11.2 2) fun y16 => some (y16.2, y16.1)) else (some (y11.2, false))) fun q13 => bi (bif q13.2 then (bi (m_lanemake_Stream_Next q13.1 (y3.1.l.length : Int)) fun y22 => bi (subZ y3.1.l y22.1 (y3.1.l.length : Int)) fun z24 => bi (m_slices_Clone_api_Step_api_Step z24) fun y26 => bi (m_lanemake_Stream_Flip y22.2 5) fun y28 => bif y28.1 then (bi (getZ y26 0) fun x31 => bi (getZ y26 0) fun x34 => some (y28.2, y26.set ((0 : Int).toNat) (⟨x34.At, x34.Server, x34.No, x34.Kind, x34.By, x34.Node, x34.Join, x34.Public, x34.Name, x34.Tags, x34.Until, x34.Uses, !x31.Ready⟩ : T_api_Step))) else (some (y28.2, y26))) else (some (q13.1, y11.1))) fun q19 => bi (m_node_Owns k y3.1.d y5.1 y7.1) fun y39 => bi (m_laneref1_DirectoryFault y3.1.d) fun y41 => bi (m_node_CheckDirectory k y3.1.d) fun y43 => bif (y43 : Int) != y41 then (some false) else (bi (bif (y41 : Int) == 0 then (bi (m_laneref1_OwnsOf y3.1.d y5.1 y7.1) fun y50 => some (y50.2, y50.1)) else (some (y41, false))) fun q47 => bif (((y39.2 : Int) != q47.1) || (!((y39.1 : Bool) == q47.2))) then (some false) else (bi (m_node_Merge k y3.1.l q19.2) fun y55 => bi (m_laneref1_StepsFault y3.1.l) fun y57 => bi (m_node_Check k y3.1.l) fun y59 => bif (y59 : Int) != y57 then (some false) else (bi (m_laneref1_StepsFault q19.2) fun y63 => bi (m_cmp_Or_api_Errno [y57, y63]) fun y65 => bif (y65 : Int) != 0 then (bi (bif (((y55.2 : Int) == y65) && (((y55.1.length : Int) : Int) == 0)) then (bi (m_lanelaw1_noded k) fun y71 => some y71) else (some false)) fun q68 => some q68) else (bi (m_laneref1_StepsMerged k y3.1.l q19.2) fun y75 => bi (bif (y55.2 : Int) == y75.2 then (bi (m_laneref1_SameSteps y55.1 y75.1) fun y80 => some y80) else (some false)) fun q77 => bi (bif q77 then (bi (m_lanelaw1_noded k) fun y86 => some y86) else (some false)) fun q83 => some q83))))

end
end Go.Gk
