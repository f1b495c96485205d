/-
  Models of functions.
-/
import Derived.Test.YtdihjljlggagiaaGreatDoorMStr3
import Derived.Test.YtdihjljlggagiaaGreatDoorGk59
set_option linter.unusedVariables false
namespace Go.Gk
noncomputable section
structure T_lanemake_Stream where
  L : List Int
  v_at : Int
  deriving DecidableEq
structure T_api_Question where
  Name : Str
  Kind : Int
  deriving DecidableEq
structure T_api_Addr where
  Six : Bool
  Hi : Int
  Lo : Int
  deriving DecidableEq
structure T_api_Record where
  Name : Str
  Kind : Int
  Addr : T_api_Addr
  To : Str
  Words : Str
  Life : Int
  deriving DecidableEq
structure T_api_Message where
  Id : Int
  Reply : Bool
  Code : Int
  Asked : List T_api_Question
  Got : List T_api_Record
  deriving DecidableEq
structure T_laneref1_pen where
  b : List Int
  v_at : List (Str × Int)
  deriving DecidableEq
structure T_name_decoder where
  b : List Int
  v_at : Int
  bad : Bool
  deriving DecidableEq
structure T_name_encoder where
  b : List Int
  v_where : List (Str × Int)
  deriving DecidableEq
structure T_laneref1_bytesReader where
  b : List Int
  v_at : Int
  bad : Bool
  deriving DecidableEq


def m_lanemake_Below (x : Int) (n : Int) : Option Int :=
  bif decide ((n : Int) < 1) then (some 0) else (bi (remZ x n) fun y3 => bi (bif decide ((y3 : Int) < 0) then (some (wi (y3 + n))) else (some y3)) fun q5 => some q5)

def m_lanemake_Stream_Next (s : T_lanemake_Stream) (n : Int) : Option (Int × T_lanemake_Stream) :=
  bif ((s.L.length : Int) : Int) == 0 then (bi (m_lanemake_Below (wi ((wi (s.v_at + 1)) * 7919)) n) fun y2 => some (y2, (⟨s.L, wi (s.v_at + 1)⟩ : T_lanemake_Stream))) else (bi (remZ (wi ((wi (s.v_at + 1)) - 1)) (s.L.length : Int)) fun y5 => bi (divZ .i64 (wi ((wi (s.v_at + 1)) - 1)) (s.L.length : Int)) fun y7 => bi (getZ s.L y5) fun x9 => bi (m_lanemake_Below x9 1073741824) fun y11 => bi (m_lanemake_Below (wi (y11 + (wi (y7 * (wi (7919 + y5)))))) n) fun y13 => some (y13, (⟨s.L, wi (s.v_at + 1)⟩ : T_lanemake_Stream)))

def m_lanemake_Stream_Pick (s : T_lanemake_Stream) (l : List Int) : Option (Int × T_lanemake_Stream) :=
  bi (m_lanemake_Stream_Next s (l.length : Int)) fun y1 => bi (getZ l y1.1) fun x3 => some (x3, y1.2)

def m_lanemake_Stream_Flip (s : T_lanemake_Stream) (n : Int) : Option (Bool × T_lanemake_Stream) :=
  bi (m_lanemake_Stream_Next s n) fun y1 => some ((y1.1 : Int) == 0, y1.2)

def m_lanemake_Stream_Some (s : T_lanemake_Stream) (l : List Str) : Option (Str × T_lanemake_Stream) :=
  bi (m_lanemake_Stream_Next s (l.length : Int)) fun y1 => bi (getZ l y1.1) fun x3 => some (x3, y1.2)

def m_lanemake_Stream_Range (s : T_lanemake_Stream) (low : Int) (high : Int) : Option (Int × T_lanemake_Stream) :=
  bif decide ((high : Int) < low) then (some (low, s)) else (bi (m_lanemake_Stream_Next s (wi ((wi (high - low)) + 1))) fun y3 => some (wi (low + y3.1), y3.2))

def m_lanemake_at (n : Int) : Option T_api_Addr :=
  some (⟨false, 0, IntKind.u64.wrap (1681915904 + (IntKind.u64.wrap (n)))⟩ : T_api_Addr)

def m_lanemake_sixAt (n : Int) : Option T_api_Addr :=
  some (⟨true, 18230571291595767808, IntKind.u64.wrap (n)⟩ : T_api_Addr)

def m_lanemake_Stream_Addr (s : T_lanemake_Stream) : Option (T_api_Addr × T_lanemake_Stream) :=
  bi (m_lanemake_Stream_Next s 6) fun y1 => bif (y1.1 : Int) == 0 then (bi (m_lanemake_Stream_Next y1.2 5) fun y4 => bi (getZ [0, 18230571291595767808, 2306139568115548160, 9223372036854775808, 18446744073709551615] y4.1) fun x6 => bi (m_lanemake_Stream_Next y4.2 5) fun y8 => bi (getZ [0, 1, 2, 4294967296, 18446744073709551615] y8.1) fun x10 => some ((⟨true, x6, x10⟩ : T_api_Addr), y8.2)) else (bif (y1.1 : Int) == 1 then (bi (m_lanemake_Stream_Next y1.2 5) fun y14 => bi (getZ [0, 1, 4294967295, 2130706433, 3232235521] y14.1) fun x16 => some ((⟨false, 0, x16⟩ : T_api_Addr), y14.2)) else (bif (y1.1 : Int) == 2 then (bi (m_lanemake_Stream_Range y1.2 0 16777216) fun y20 => bi (remZ (IntKind.u64.wrap ((IntKind.u64.wrap (y20.1)) * 251)) 4294967296) fun y22 => some ((⟨false, 0, y22⟩ : T_api_Addr), y20.2)) else (bi (m_lanemake_Stream_Range y1.2 0 20) fun y25 => some ((⟨false, 0, IntKind.u64.wrap (167772160 + (IntKind.u64.wrap (y25.1)))⟩ : T_api_Addr), y25.2))))

def m_lanemake_Stream_Raw (s : T_lanemake_Stream) : Option (T_api_Addr × T_lanemake_Stream) :=
  bi (m_lanemake_Stream_Addr s) fun y1 => bi (m_lanemake_Stream_Flip y1.2 15) fun y3 => bif y3.1 then (bi (m_lanemake_Stream_Next y3.2 2) fun y6 => bi (m_lanemake_Stream_Next y6.2 3) fun y8 => bi (getZ [4294967296, 5, 1099511627776] y8.1) fun x10 => some ((⟨false, IntKind.u64.wrap (y6.1), x10⟩ : T_api_Addr), y8.2)) else (some (y1.1, y3.2))

def m_lanemake_Stream_Odd (s : T_lanemake_Stream) (low : Int) (high : Int) : Option (Int × T_lanemake_Stream) :=
  bi (m_lanemake_Stream_Flip s 12) fun y1 => bif y1.1 then (bi (m_lanemake_Stream_Pick y1.2 [wi (low - 1), wi (high + 1), low, high, -1099511627776, 1099511627776]) fun y4 => some (y4.1, y4.2)) else (bi (m_lanemake_Stream_Range y1.2 low high) fun y7 => some (y7.1, y7.2))

def m_lanemake_Stream_record (s : T_lanemake_Stream) (name : Str) : Option (T_api_Record × T_lanemake_Stream) :=
  bi (m_lanemake_Stream_Pick s [0, 5, 60, 1000000]) fun y1 => bi (m_lanemake_Stream_Next y1.2 7) fun y3 => bi (bi (bif (y3.1 : Int) == 0 then (some ((y3.1 : Int) == 0)) else (some ((y3.1 : Int) == 1))) fun q7 => bif q7 then (bi (m_lanemake_Stream_Range y3.2 1 3) fun y12 => bi (m_lanemake_at y12.1) fun y14 => some (y12.2, (⟨name, 1, y14, [], [], y1.1⟩ : T_api_Record))) else (bif (y3.1 : Int) == 2 then (bi (m_lanemake_Stream_Range y3.2 1 3) fun y18 => bi (m_lanemake_sixAt y18.1) fun y20 => some (y18.2, (⟨name, 28, y20, [], [], y1.1⟩ : T_api_Record))) else (bif (y3.1 : Int) == 3 then (bi (m_lanemake_Stream_Some y3.2 [[], [104, 105], [97, 32, 98], [118, 61, 49]]) fun y24 => some (y24.2, (⟨name, 16, (⟨false, 0, 0⟩ : T_api_Addr), [], y24.1, y1.1⟩ : T_api_Record))) else (bif (y3.1 : Int) == 4 then (bi (m_lanemake_Stream_Some y3.2 [[97, 46, 110, 101, 116, 46, 120], [98, 46, 110, 101, 116, 46, 120]]) fun y28 => some (y28.2, (⟨name, 12, (⟨false, 0, 0⟩ : T_api_Addr), y28.1, [], y1.1⟩ : T_api_Record))) else (bi (m_lanemake_Stream_Some y3.2 [[97, 46, 110, 101, 116, 46, 120], [98, 46, 110, 101, 116, 46, 120], [99, 46, 110, 101, 116, 46, 120], [113, 46, 108, 97, 98, 46, 110, 101, 116, 46, 120], [100, 46, 110, 101, 116, 46, 120], [111, 116, 104, 101, 114]]) fun y31 => some (y31.2, (⟨name, 5, (⟨false, 0, 0⟩ : T_api_Addr), y31.1, [], y1.1⟩ : T_api_Record))))))) fun q5 => bi (m_lanemake_Stream_Flip q5.1 40) fun y33 => bi (bif y33.1 then (bi (m_lanemake_Stream_Next y33.2 4) fun y38 => bif (y38.1 : Int) == 0 then (bi (m_lanemake_Stream_Pick y38.2 [0, 2, 5]) fun y41 => some (y41.2, (⟨q5.2.Name, y41.1, q5.2.Addr, q5.2.To, q5.2.Words, q5.2.Life⟩ : T_api_Record))) else (bif (y38.1 : Int) == 1 then (bi (m_lanemake_Stream_Raw y38.2) fun y45 => some (y45.2, (⟨q5.2.Name, q5.2.Kind, y45.1, q5.2.To, q5.2.Words, q5.2.Life⟩ : T_api_Record))) else (bif (y38.1 : Int) == 2 then (bi (m_lanemake_Stream_Some y38.2 [[], [65], [120]]) fun y49 => some (y49.2, (⟨q5.2.Name, q5.2.Kind, q5.2.Addr, y49.1, q5.2.Words, q5.2.Life⟩ : T_api_Record))) else (bi (m_lanemake_Stream_Some y38.2 [[32, 120], [97, 10, 98], [], [121]]) fun y52 => bi (m_lanemake_Stream_Odd y52.2 0 1000000) fun y54 => some (y54.2, (⟨q5.2.Name, q5.2.Kind, q5.2.Addr, q5.2.To, y52.1, y54.1⟩ : T_api_Record)))))) else (some (y33.2, q5.2))) fun q35 => some (q35.2, q35.1)

def m_lanemake_Stream_Records (s : T_lanemake_Stream) (many : Int) : Option ((List T_api_Record) × T_lanemake_Stream) :=
  bi (gd (decide (many ≤ 9223372036854775807)) (rangeG (σ := T_lanemake_Stream × (List T_api_Record)) (fun i1 s2 => bi (m_lanemake_Stream_Some s2.1 [[97, 46, 110, 101, 116, 46, 120], [98, 46, 110, 101, 116, 46, 120], [99, 46, 110, 101, 116, 46, 120], [120, 46, 121]]) fun y13 => bi (m_lanemake_Stream_record y13.2 y13.1) fun y15 => bi (apd s2.2 [y15.1]) fun y17 => some (y15.2, y17)) many (s, ([] : List T_api_Record)))) fun q4 => some (q4.2, q4.1)

def m_lanemake_Stream_Message (s : T_lanemake_Stream) : Option (T_api_Message × T_lanemake_Stream) :=
  bi (m_lanemake_Stream_Pick s [0, 1, 258, 65535]) fun y1 => bi (m_lanemake_Stream_Flip y1.2 2) fun y3 => bi (m_lanemake_Stream_Pick y3.2 [0, 0, 3, 15]) fun y5 => bi (m_lanemake_Stream_Pick y5.2 [0, 1, 1, 2]) fun y7 => bi (gd (decide (y7.1 ≤ 9223372036854775807)) (rangeG (σ := T_lanemake_Stream × (List T_api_Question)) (fun i9 s10 => bi (m_lanemake_Stream_Some s10.1 [[97, 46, 110, 101, 116, 46, 120], [110, 101, 116, 46, 120], [100, 101, 101, 112, 46, 97, 46, 110, 101, 116, 46, 120], [111, 116, 104, 101, 114], [120, 46, 97, 46, 110, 101, 116]]) fun y21 => bi (m_lanemake_Stream_Pick y21.2 [1, 5, 28, 12, 16]) fun y23 => bi (apd s10.2 [(⟨y21.1, y23.1⟩ : T_api_Question)]) fun y25 => some (y23.2, y25)) y7.1 (y7.2, ([] : List T_api_Question)))) fun q12 => bi (m_lanemake_Stream_Range q12.1 0 3) fun y27 => bi (m_lanemake_Stream_Records y27.2 y27.1) fun y29 => bi (m_lanemake_Stream_Flip y29.2 20) fun y31 => bi (bif y31.1 then (bi (m_lanemake_Stream_Odd y31.2 0 65535) fun y36 => bi (m_lanemake_Stream_Odd y36.2 0 15) fun y38 => some (y38.2, y36.1, y38.1)) else (some (y31.2, y1.1, y5.1))) fun q33 => bi (m_lanemake_Stream_Flip q33.1 20) fun y41 => bi (bif y41.1 then (bi (m_lanemake_Stream_Some y41.2 [[42, 46, 110, 101, 116, 46, 120], [], [65]]) fun y46 => bi (m_lanemake_Stream_record y46.2 y46.1) fun y48 => bi (apd y29.1 [y48.1]) fun y50 => some (y48.2, y50)) else (some (y41.2, y29.1))) fun q43 => some ((⟨q33.2.1, y3.1, q33.2.2, q12.2, q43.2⟩ : T_api_Message), q43.1)

def m_laneref1_in (n : Int) (low : Int) (high : Int) : Option Bool :=
  some ((decide ((low : Int) ≤ n)) && (decide ((n : Int) ≤ high)))

def m_laneref1_LabelForm (s : Str) : Option Bool :=
  bif decide (((s.length : Int) : Int) > 63) then (some false) else (bi (m_strings_TrimPrefix s [95]) fun y3 => bi (bif !((y3 : Str) == []) then (bi (m_strings_Trim y3 [97, 98, 99, 100, 101, 102, 103, 104, 105, 106, 107, 108, 109, 110, 111, 112, 113, 114, 115, 116, 117, 118, 119, 120, 121, 122, 48, 49, 50, 51, 52, 53, 54, 55, 56, 57, 45]) fun y8 => some ((y8 : Str) == [])) else (some false)) fun q5 => bi (bif q5 then (bi (getZ y3 0) fun c14 => some (((c14.toNat : Int) : Int) != 45)) else (some false)) fun q11 => bi (bif q11 then (bi (getZ y3 (wi ((y3.length : Int) - 1))) fun c20 => some (((c20.toNat : Int) : Int) != 45)) else (some false)) fun q17 => some q17)

def m_laneref1_DomainFault (s : Str) : Option Int :=
  bif decide (((s.length : Int) : Int) > 253) then (some 2) else (bi (m_strings_Split s [46]) fun y3 => bi (rangeM (σ := Unit) (ρ := Int) (fun i5 x7 s6 => bi (m_laneref1_LabelForm x7) fun y16 => bif !y16 then (bi (some 5) fun v => some (.out v)) else (some (.go ()))) 0 y3 ()) fun q => goI q fun a10 => some 0)

def m_laneref1_Kinds  : Option (List Int) :=
  some [1, 5, 12, 16, 28]

def m_slices_Index_int_int (s : List Int) (v : Int) : Option Int :=
  bi (rangeM (σ := Unit) (ρ := Int) (fun i1 x3 s2 => bif (v : Int) == x3 then (bi (some (i1 : Int)) fun v => some (.out v)) else (some (.go ()))) 0 s ()) fun q => goI q fun a6 => some (-1)

def m_slices_Contains_int_int (s : List Int) (v : Int) : Option Bool :=
  bi (m_slices_Index_int_int s v) fun y1 => some (decide ((y1 : Int) ≥ 0))

def m_laneref2_AddrFault (a : T_api_Addr) : Option Int :=
  bif ((!a.Six) && ((decide ((a.Hi : Int) > 0)) || (decide ((a.Lo : Int) > 4294967295)))) then (some 3) else (some 0)

def m_laneref1_plain (s : Str) : Option Bool :=
  bi (gd (decide ((s.length : Int) ≤ 9223372036854775807)) (rangeI (σ := Unit) (ρ := Bool) (fun i1 s2 => bi (getZ s (i1 : Int)) fun c13 => bi (bif decide (((c13.toNat : Int) : Int) < 32) then (some true) else (bi (getZ s (i1 : Int)) fun c19 => some (((c19.toNat : Int) : Int) == 127))) fun q15 => bif q15 then (bi (some false) fun v => some (.out v)) else (some (.go ()))) (s.length : Int) ())) fun q => goI q fun a6 => bi (m_utf8_ValidString s) fun y25 => bi (bif y25 then (bi (m_strings_Trim s [32]) fun y30 => some ((s : Str) == y30)) else (some false)) fun q27 => bi (bif q27 then (bi (m_strings_Contains s [32, 32]) fun y36 => some (!y36)) else (some false)) fun q33 => some q33

def m_laneref1_RecordFault (v_r : T_api_Record) : Option Int :=
  bi (bif decide (((v_r.Name.length : Int) : Int) > 253) then (some true) else (bi (m_strings_TrimPrefix v_r.Name [42, 46]) fun y5 => bi (m_laneref1_DomainFault y5) fun y7 => some ((y7 : Int) != 0))) fun q1 => bif q1 then (some 5) else (bi m_laneref1_Kinds fun y11 => bi (m_slices_Contains_int_int y11 v_r.Kind) fun y13 => bif !y13 then (some 4) else (bi (bif (v_r.Kind : Int) == 1 then (some true) else (some ((v_r.Kind : Int) == 28))) fun q17 => bi (bif q17 then (bi (m_laneref2_AddrFault v_r.Addr) fun y24 => some (((y24 : Int) != 0) || (!((v_r.Addr.Six : Bool) == ((v_r.Kind : Int) == 28))))) else (some false)) fun q21 => bif (q21 || ((!q17) && (!(((v_r.Addr.Six : Bool) == false) && (((v_r.Addr.Hi : Int) == 0) && (((v_r.Addr.Lo : Int) == 0) && true)))))) then (some 3) else (bi (bif (((v_r.Kind : Int) == 5) || ((v_r.Kind : Int) == 12)) then (bi (m_laneref1_DomainFault v_r.To) fun y33 => bif (y33 : Int) != 0 then (bi (some 5) fun v => some (.inr v)) else (some (.inl ()))) else (bif !((v_r.To : Str) == []) then (bi (some 3) fun v => some (.inr v)) else (some (.inl ()))) : Option (Unit ⊕ Int)) fun q => orI q fun a31 => bi (bif (((v_r.Kind : Int) != 16) && (!((v_r.Words : Str) == []))) then (some true) else (bi (m_laneref1_plain v_r.Words) fun y48 => some (!y48))) fun q44 => bif (q44 || (decide (((v_r.Words.length : Int) : Int) > 200))) then (some 3) else (bi (m_laneref1_in v_r.Life 0 1000000) fun y52 => bif !y52 then (some 1) else (some 0)))))

def m_laneref1_MessageFault (m : T_api_Message) : Option Int :=
  bi (m_laneref1_in m.Id 0 65535) fun y1 => bi (bif !y1 then (some true) else (bi (m_laneref1_in m.Code 0 15) fun y7 => some (!y7))) fun q3 => bif q3 then (some 1) else (bif decide (((m.Asked.length : Int) : Int) > 10) then (some 2) else (bi (rangeM (σ := Unit) (ρ := Int) (fun i13 x15 s14 => bi (m_laneref1_DomainFault x15.Name) fun y24 => bif (y24 : Int) != 0 then (bi (some y24) fun v => some (.out v)) else (bi m_laneref1_Kinds fun y30 => bi (m_slices_Contains_int_int y30 x15.Kind) fun y32 => bif !y32 then (bi (some 4) fun v => some (.out v)) else (some (.go ())))) 0 m.Asked ()) fun q => goI q fun a18 => bif decide (((m.Got.length : Int) : Int) > 50) then (some 2) else (bi (rangeM (σ := Unit) (ρ := Int) (fun i40 x42 s41 => bi (m_laneref1_RecordFault x42) fun y51 => bif (y51 : Int) != 0 then (bi (some y51) fun v => some (.out v)) else (bi (getZ x42.Name 0) fun c57 => bif ((c57.toNat : Int) : Int) == 42 then (bi (some 5) fun v => some (.out v)) else (some (.go ())))) 0 m.Got ()) fun q => goI q fun a45 => some 0)))

def m_laneref1_pen_put (k : Nat) (p : T_laneref1_pen) (n : Int) (bytes : Int) : Option T_laneref1_pen :=
  bi (loopM (σ := (List Int) × Int) (ρ := List Int) (fun s2 => bif decide ((s2.2 : Int) ≥ 0) then (bi (shrZ .u64 n (wi (8 * s2.2))) fun y12 => bi (apd s2.1 [IntKind.u8.wrap (y12)]) fun y14 => some (.go (y14, wi (s2.2 - 1)))) else (some (.out s2.1))) k (p.b, wi (bytes - 1))) fun q4 => some (⟨q4, p.v_at⟩ : T_laneref1_pen)

def m_laneref1_pen_name (k : Nat) (p : T_laneref1_pen) (s : Str) : Option T_laneref1_pen :=
  bi (loopM (σ := (List (Str × Int)) × (List Int) × (List (Str × Int)) × Str) (ρ := (List (Str × Int)) × (List Int) × (List (Str × Int))) (fun s2 => bif !((s2.2.2.2 : Str) == []) then (bif (mGet s2.1 s2.2.2.2).isSome then (bi (m_laneref1_pen_put k (⟨s2.2.1, s2.1⟩ : T_laneref1_pen) (IntKind.u64.wrap (wi (49152 + ((mGet s2.1 s2.2.2.2).getD 0)))) 2) fun y13 => some (.out (y13.v_at, y13.b, s2.2.2.1))) else (bi (m_strings_Cut s2.2.2.2 [46]) fun y16 => bi (m_laneref1_pen_put k (⟨s2.2.1, s2.1⟩ : T_laneref1_pen) (IntKind.u64.wrap ((y16.1.length : Int))) 1) fun y18 => bi (apd y18.b (bytesOf y16.1)) fun y20 => bif (y16.2.1 : Str) == [] then (bi (m_laneref1_pen_put k (⟨y20, y18.v_at⟩ : T_laneref1_pen) 0 1) fun y23 => some (.go (y23.v_at, y23.b, (mSet s2.2.2.1 s2.2.2.2 (s2.2.1.length : Int)), y16.2.1))) else (some (.go (y18.v_at, y20, (mSet s2.2.2.1 s2.2.2.2 (s2.2.1.length : Int)), y16.2.1))))) else (some (.out (s2.1, s2.2.1, s2.2.2.1)))) k (p.v_at, p.b, ([] : List (Str × Int)), s)) fun q4 => bi (rangeP (σ := List (Str × Int)) (fun x34 s33 => some (mSet s33 x34.1 x34.2)) q4.2.2 q4.1) fun q38 => some (⟨q4.2.1, q38⟩ : T_laneref1_pen)

def m_laneref1_MessageBytes (k : Nat) (m : T_api_Message) : Option (List Int) :=
  bi (m_laneref1_pen_put k (⟨([] : List Int), ([] : List (Str × Int))⟩ : T_laneref1_pen) (IntKind.u64.wrap (m.Id)) 2) fun y1 => bi (bif m.Reply then (some 128) else (some 0)) fun q3 => bi (rangeF (σ := (List (Str × Int)) × (List Int)) (fun i7 x9 s8 => bi (m_laneref1_pen_put k (⟨s8.2, s8.1⟩ : T_laneref1_pen) x9 1) fun y18 => some (y18.v_at, y18.b)) 0 [q3, IntKind.u64.wrap (m.Code), IntKind.u64.wrap ((m.Asked.length : Int)), IntKind.u64.wrap ((m.Got.length : Int))] (y1.v_at, y1.b)) fun q10 => bi (rangeF (σ := (List (Str × Int)) × (List Int)) (fun i20 x22 s21 => bi (m_laneref1_pen_name k (⟨s21.2, s21.1⟩ : T_laneref1_pen) x22.Name) fun y31 => bi (m_laneref1_pen_put k y31 (IntKind.u64.wrap (x22.Kind)) 1) fun y33 => some (y33.v_at, y33.b)) 0 m.Asked (q10.1, q10.2)) fun q23 => bi (rangeF (σ := (List (Str × Int)) × (List Int)) (fun i35 x37 s36 => bi (m_laneref1_pen_name k (⟨s36.2, s36.1⟩ : T_laneref1_pen) x37.Name) fun y46 => bi (m_laneref1_pen_put k y46 (IntKind.u64.wrap (x37.Kind)) 1) fun y48 => bi (m_laneref1_pen_put k y48 (IntKind.u64.wrap (x37.Life)) 4) fun y50 => bif (x37.Kind : Int) == 1 then (bi (m_laneref1_pen_put k y50 x37.Addr.Lo 4) fun y53 => some (y53.v_at, y53.b)) else (bif (x37.Kind : Int) == 28 then (bi (m_laneref1_pen_put k y50 x37.Addr.Hi 8) fun y57 => bi (m_laneref1_pen_put k y57 x37.Addr.Lo 8) fun y59 => some (y59.v_at, y59.b)) else (bif (x37.Kind : Int) == 16 then (bi (m_laneref1_pen_put k y50 (IntKind.u64.wrap ((x37.Words.length : Int))) 1) fun y63 => bi (apd y63.b (bytesOf x37.Words)) fun y65 => some (y63.v_at, y65)) else (bi (m_laneref1_pen_name k y50 x37.To) fun y68 => some (y68.v_at, y68.b))))) 0 m.Got (q23.1, q23.2)) fun q38 => some q38.2

def m_lanemake_Stream_Bytes (s : T_lanemake_Stream) (b : List Int) : Option ((List Int) × T_lanemake_Stream) :=
  bi (apd ([] : List Int) b) fun y1 => bi (m_lanemake_Stream_Range s 1 2) fun y3 => bi (gd (decide (y3.1 ≤ 9223372036854775807)) (rangeI (σ := T_lanemake_Stream × (List Int)) (ρ := (List Int) × T_lanemake_Stream) (fun i5 s6 => bif ((s6.2.length : Int) : Int) == 0 then (bi (m_lanemake_Stream_Next s6.1 256) fun y18 => bi (apd s6.2 [IntKind.u8.wrap (y18.1)]) fun y20 => bi (some (y20, y18.2)) fun v => some (.out v)) else (bi (m_lanemake_Stream_Next s6.1 (s6.2.length : Int)) fun y25 => bi (m_lanemake_Stream_Next y25.2 4) fun y27 => bif (y27.1 : Int) == 0 then (bi (subZ s6.2 0 y25.1) fun z30 => bi (subZ s6.2 (wi (y25.1 + 1)) (s6.2.length : Int)) fun z32 => bi (apd z30 z32) fun y34 => some (.go (y27.2, y34))) else (bif (y27.1 : Int) == 1 then (bi (subZ s6.2 0 (wi (y25.1 + 1))) fun z38 => bi (subZ s6.2 y25.1 (s6.2.length : Int)) fun z40 => bi (apd z38 z40) fun y42 => some (.go (y27.2, y42))) else (bif (y27.1 : Int) == 2 then (bi (subZ s6.2 0 y25.1) fun z46 => some (.go (y27.2, z46))) else (bi (getZ s6.2 y25.1) fun x49 => bi (m_lanemake_Stream_Next y27.2 8) fun y52 => bi (shlZ .u8 1 y52.1) fun y54 => bi (getZ s6.2 y25.1) fun x56 => some (.go (y52.2, s6.2.set y25.1.toNat (bitsV .xor .u8 x49 y54)))))))) y3.1 (y3.2, y1))) fun q => goI q fun a10 => some (a10.2, a10.1)

def m_slices_Index_byte_byte (s : List Int) (v : Int) : Option Int :=
  bi (rangeM (σ := Unit) (ρ := Int) (fun i1 x3 s2 => bif (v : Int) == x3 then (bi (some (i1 : Int)) fun v => some (.out v)) else (some (.go ()))) 0 s ()) fun q => goI q fun a6 => some (-1)

def m_slices_Clone_byte_byte (s : List Int) : Option (List Int) :=
  bi (apd ([] : List Int) s) fun y1 => some y1

def m_lanemake_Stream_MessageRow (k : Nat) (s : T_lanemake_Stream) : Option ((List Int) × T_lanemake_Stream) :=
  bi (m_lanemake_Stream_Message s) fun y1 => bi (m_laneref1_MessageFault y1.1) fun y3 => bi (bif (y3 : Int) == 0 then (bi (m_laneref1_MessageBytes k y1.1) fun y8 => some y8) else (some [1, 2, 128, 0, 1, 1, 1, 97, 1, 120, 0, 1, 1, 98, 192, 6, 5, 0, 0, 0, 3, 192, 6])) fun q5 => bi (m_lanemake_Stream_Flip y1.2 2) fun y11 => bi (bif y11.1 then (bi (m_lanemake_Stream_Bytes y11.2 q5) fun y16 => some (y16.2, y16.1)) else (some (y11.2, q5))) fun q13 => bi (m_slices_Index_byte_byte q13.2 192) fun y19 => bi (bif ((decide ((y19 : Int) ≥ 0)) && (decide ((wi (y19 + 1) : Int) < (q13.2.length : Int)))) then (bi (m_lanemake_Stream_Flip q13.1 6) fun y24 => some (y24.2, y24.1)) else (some (q13.1, false))) fun q21 => bi (bif q21.2 then (bi (m_slices_Clone_byte_byte q13.2) fun y30 => bi (m_lanemake_Stream_Pick q21.1 [0, 5, 6, 7, 8, y19, wi (y19 - 1), wi (y19 + 2)]) fun y32 => bi (getZ y30 (wi (y19 + 1))) fun x34 => some (y32.2, y30.set ((wi (y19 + 1)).toNat) (IntKind.u8.wrap (y32.1)))) else (some (q21.1, q13.2))) fun q27 => some (q27.2, q27.1)

def m_name_decoder_take (x : T_name_decoder) (n : Int) : Option ((List Int) × T_name_decoder) :=
  bi (bif x.bad then (some true) else (some (decide ((n : Int) > (wi ((x.b.length : Int) - x.v_at)))))) fun q1 => bif q1 then (bi (makeZ (0 : Int) n) fun y6 => some (y6, (⟨x.b, x.v_at, true⟩ : T_name_decoder))) else (bi (subZ x.b (wi ((wi (x.v_at + n)) - n)) (wi (x.v_at + n))) fun z9 => some (z9, (⟨x.b, wi (x.v_at + n), x.bad⟩ : T_name_decoder)))

def m_name_decoder_number (x : T_name_decoder) (n : Int) : Option (Int × T_name_decoder) :=
  bi (m_name_decoder_take x n) fun y1 => bi (rangeF (σ := Int) (fun i3 x5 s4 => some (bitsV .or .u64 (shlV .u64 s4 8) (IntKind.u64.wrap (x5)))) 0 y1.1 0) fun q6 => some (q6, y1.2)

def m_name_decoder_name (k : Nat) (x : T_name_decoder) : Option (Str × T_name_decoder) :=
  bi (loopM (σ := T_name_decoder × (List Str) × Int × Int) (ρ := T_name_decoder × (List Str) × Int) (fun s2 => bif !s2.1.bad then (bi (m_name_decoder_number s2.1 1) fun y12 => bif (wi (y12.1) : Int) == 0 then (some (.out (y12.2, s2.2.1, s2.2.2.2))) else (bif decide ((wi (y12.1) : Int) < 192) then (bi (bif decide ((wi (y12.1) : Int) > 63) then (some true) else (some y12.2.bad)) fun q17 => bi (m_name_decoder_take (⟨y12.2.b, y12.2.v_at, q17⟩ : T_name_decoder) (wi (y12.1))) fun y21 => bi (strB y21.1) fun y23 => bi (apd s2.2.1 [y23]) fun y25 => some (.go (y21.2, y25, s2.2.2.1, s2.2.2.2))) else (bi (m_name_decoder_number (⟨y12.2.b, s2.1.v_at, y12.2.bad⟩ : T_name_decoder) 2) fun y28 => bi (bif decide ((wi ((wi (y28.1)) - 49152) : Int) ≥ s2.2.2.1) then (some true) else (some y28.2.bad)) fun q30 => bi (bif decide ((s2.2.2.2 : Int) < 0) then (some y28.2.v_at) else (some s2.2.2.2)) fun q34 => some (.go ((⟨y28.2.b, wi ((wi (y28.1)) - 49152), q30⟩ : T_name_decoder), s2.2.1, wi ((wi (y28.1)) - 49152), q34))))) else (some (.out (s2.1, s2.2.1, s2.2.2.2)))) k (x, ([] : List Str), x.v_at, -1)) fun q4 => bi (bif decide ((q4.2.2 : Int) ≥ 0) then (some q4.2.2) else (some q4.1.v_at)) fun q39 => bi (m_strings_Join q4.2.1 [46]) fun y43 => some (y43, (⟨q4.1.b, q39, q4.1.bad⟩ : T_name_decoder))

def m_name_decoder_record (k : Nat) (x : T_name_decoder) : Option (T_api_Record × T_name_decoder) :=
  bi (m_name_decoder_name k x) fun y1 => bi (m_name_decoder_number y1.2 1) fun y3 => bi (m_name_decoder_number y3.2 4) fun y5 => bi (bif (wi (y3.1) : Int) == 1 then (bi (m_name_decoder_number y5.2 4) fun y10 => some (y10.2, (⟨y1.1, wi (y3.1), (⟨false, 0, y10.1⟩ : T_api_Addr), [], [], wi (y5.1)⟩ : T_api_Record))) else (bif (wi (y3.1) : Int) == 28 then (bi (m_name_decoder_number y5.2 8) fun y14 => bi (m_name_decoder_number y14.2 8) fun y16 => some (y16.2, (⟨y1.1, wi (y3.1), (⟨true, y14.1, y16.1⟩ : T_api_Addr), [], [], wi (y5.1)⟩ : T_api_Record))) else (bif (wi (y3.1) : Int) == 16 then (bi (m_name_decoder_number y5.2 1) fun y20 => bi (m_name_decoder_take y20.2 (wi (y20.1))) fun y22 => bi (strB y22.1) fun y24 => some (y22.2, (⟨y1.1, wi (y3.1), (⟨false, 0, 0⟩ : T_api_Addr), [], y24, wi (y5.1)⟩ : T_api_Record))) else (bi (bif (wi (y3.1) : Int) == 5 then (some ((wi (y3.1) : Int) == 5)) else (some ((wi (y3.1) : Int) == 12))) fun q27 => bif q27 then (bi (m_name_decoder_name k y5.2) fun y32 => some (y32.2, (⟨y1.1, wi (y3.1), (⟨false, 0, 0⟩ : T_api_Addr), y32.1, [], wi (y5.1)⟩ : T_api_Record))) else (some ((⟨y5.2.b, y5.2.v_at, true⟩ : T_name_decoder), (⟨y1.1, wi (y3.1), (⟨false, 0, 0⟩ : T_api_Addr), [], [], wi (y5.1)⟩ : T_api_Record))))))) fun q7 => some (q7.2, q7.1)

def m_kit_Outside (n : Int) (low : Int) (high : Int) : Option Bool :=
  some ((decide ((n : Int) < low)) || (decide ((n : Int) > high)))

def m_name_isLetter (c : Int) : Option Bool :=
  some (((decide ((c : Int) ≥ 97)) && (decide ((c : Int) ≤ 122))) || ((decide ((c : Int) ≥ 48)) && (decide ((c : Int) ≤ 57))))

def m_name_isLabel : Nat → Str → Option Bool
  | 0, _ => none
  | k + 1, s => bi (m_strings_CutPrefix s [95]) fun y1 => bif y1.2 then (bi (m_strings_HasPrefix y1.1 [95]) fun y4 => bi (bif !y4 then (bi (m_name_isLabel k y1.1) fun y9 => some y9) else (some false)) fun q6 => some (q6 && (decide (((s.length : Int) : Int) ≤ 63)))) else (bi (gd (decide ((s.length : Int) ≤ 9223372036854775807)) (rangeI (σ := Unit) (ρ := Bool) (fun i13 s14 => bi (getZ s (i13 : Int)) fun c25 => bi (m_name_isLetter (c25.toNat : Int)) fun y27 => bi (bif !y27 then (bi (getZ s (i13 : Int)) fun c32 => some (((c32.toNat : Int) : Int) != 45)) else (some false)) fun q29 => bif q29 then (bi (some false) fun v => some (.out v)) else (some (.go ()))) (s.length : Int) ())) fun q => goI q fun a18 => bi (bif ((!((s : Str) == [])) && (decide (((s.length : Int) : Int) ≤ 63))) then (bi (getZ s 0) fun c42 => some (((c42.toNat : Int) : Int) != 45)) else (some false)) fun q39 => bi (bif q39 then (bi (getZ s (wi ((s.length : Int) - 1))) fun c48 => some (((c48.toNat : Int) : Int) != 45)) else (some false)) fun q45 => some q45)

def m_name_CheckDomain (k : Nat) (s : Str) : Option Int :=
  bif decide (((s.length : Int) : Int) > 253) then (some 2) else (bi (m_strings_Split s [46]) fun y3 => bi (rangeM (σ := Unit) (ρ := Int) (fun i5 x7 s6 => bi (m_name_isLabel k x7) fun y16 => bif !y16 then (bi (some 5) fun v => some (.out v)) else (some (.go ()))) 0 y3 ()) fun q => goI q fun a10 => some 0)

def m_name_isKind (kind : Int) : Option Bool :=
  bi (bif (kind : Int) == 1 then (some ((kind : Int) == 1)) else (bif (kind : Int) == 5 then (some ((kind : Int) == 5)) else (bif (kind : Int) == 12 then (some ((kind : Int) == 12)) else (bif (kind : Int) == 16 then (some ((kind : Int) == 16)) else (some ((kind : Int) == 28)))))) fun q1 => bif q1 then (some true) else (some false)

def m_name_bare (name : Str) : Option Str :=
  bi (m_strings_TrimPrefix name [42, 46]) fun y1 => some y1

def m_name_hasAddr (kind : Int) : Option Bool :=
  some (((kind : Int) == 1) || ((kind : Int) == 28))

def m_addr_CheckAddr (a : T_api_Addr) : Option Int :=
  bif ((!a.Six) && (((a.Hi : Int) != 0) || (decide ((a.Lo : Int) ≥ 4294967296)))) then (some 3) else (some 0)

def m_name_hasName (kind : Int) : Option Bool :=
  some (((kind : Int) == 5) || ((kind : Int) == 12))

def m_kit_IsPlain (k : Nat) (s : Str) : Option Bool :=
  bi (loopM (σ := Int) (ρ := Unit ⊕ Bool) (fun s2 => bif decide ((s2 : Int) < (s.length : Int)) then (bi (getZ s s2) fun c12 => bi (bif decide (((c12.toNat : Int) : Int) < 32) then (some true) else (bi (getZ s s2) fun c18 => some (((c18.toNat : Int) : Int) == 127))) fun q14 => bif q14 then (bi (some false) fun v => some (.out (.inr v))) else (some (.go (wi (s2 + 1))))) else (some (.out (.inl ())))) k 0) fun q => orI q fun a6 => bi (m_utf8_ValidString s) fun y25 => bi (bif y25 then (bi (m_strings_Trim s [32]) fun y30 => some ((y30 : Str) == s)) else (some false)) fun q27 => bi (bif q27 then (bi (m_strings_Contains s [32, 32]) fun y36 => some (!y36)) else (some false)) fun q33 => some q33

def m_name_recordFault (k : Nat) (v_r : T_api_Record) : Option Int :=
  bi (m_name_bare v_r.Name) fun y1 => bi (m_name_CheckDomain k y1) fun y3 => bif (((y3 : Int) != 0) || (decide (((v_r.Name.length : Int) : Int) > 253))) then (some 5) else (bi (m_name_isKind v_r.Kind) fun y7 => bif !y7 then (some 4) else (bi (m_name_hasAddr v_r.Kind) fun y11 => bi (bif y11 then (bi (bif !((v_r.Addr.Six : Bool) == ((v_r.Kind : Int) == 28)) then (some true) else (bi (m_addr_CheckAddr v_r.Addr) fun y20 => some ((y20 : Int) != 0))) fun q16 => some q16) else (some false)) fun q13 => bif q13 then (some 3) else (bi (m_name_hasAddr v_r.Kind) fun y25 => bif ((!y25) && (!(((v_r.Addr.Six : Bool) == false) && (((v_r.Addr.Hi : Int) == 0) && (((v_r.Addr.Lo : Int) == 0) && true))))) then (some 3) else (bi (m_name_hasName v_r.Kind) fun y29 => bi (bif y29 then (bi (m_name_CheckDomain k v_r.To) fun y34 => some ((y34 : Int) != 0)) else (some false)) fun q31 => bif q31 then (some 5) else (bi (m_name_hasName v_r.Kind) fun y39 => bif ((!y39) && (!((v_r.To : Str) == []))) then (some 3) else (bi (bif (v_r.Kind : Int) == 16 then (bi (m_kit_IsPlain k v_r.Words) fun y46 => some ((!y46) || (decide (((v_r.Words.length : Int) : Int) > 200)))) else (some false)) fun q43 => bif (q43 || (((v_r.Kind : Int) != 16) && (!((v_r.Words : Str) == [])))) then (some 3) else (bi (m_kit_Outside v_r.Life 0 1000000) fun y51 => bif y51 then (some 1) else (some 0))))))))

def m_name_messageFault (k : Nat) (m : T_api_Message) : Option Int :=
  bi (m_kit_Outside m.Id 0 65535) fun y1 => bi (bif y1 then (some true) else (bi (m_kit_Outside m.Code 0 15) fun y7 => some y7)) fun q3 => bif q3 then (some 1) else (bif decide (((m.Asked.length : Int) : Int) > 10) then (some 2) else (bi (rangeM (σ := Unit) (ρ := Int) (fun i13 x15 s14 => bi (m_name_CheckDomain k x15.Name) fun y24 => bif (y24 : Int) != 0 then (bi (some y24) fun v => some (.out v)) else (bi (m_name_isKind x15.Kind) fun y30 => bif !y30 then (bi (some 4) fun v => some (.out v)) else (some (.go ())))) 0 m.Asked ()) fun q => goI q fun a18 => bif decide (((m.Got.length : Int) : Int) > 50) then (some 2) else (bi (rangeM (σ := Unit) (ρ := Int) (fun i38 x40 s39 => bi (m_name_recordFault k x40) fun y49 => bif (y49 : Int) != 0 then (bi (some y49) fun v => some (.out v)) else (bi (m_strings_HasPrefix x40.Name [42]) fun y55 => bif y55 then (bi (some 5) fun v => some (.out v)) else (some (.go ())))) 0 m.Got ()) fun q => goI q fun a43 => some 0)))

def m_name_encoder_number (k : Nat) (x : T_name_encoder) (n : Int) (many : Int) : Option T_name_encoder :=
  bi (loopM (σ := (List Int) × Int) (ρ := List Int) (fun s2 => bif decide ((s2.2 : Int) ≥ 0) then (bi (shrZ .u64 n (wi (8 * s2.2))) fun y12 => bi (apd s2.1 [IntKind.u8.wrap (y12)]) fun y14 => some (.go (y14, wi (s2.2 - 1)))) else (some (.out s2.1))) k (x.b, wi (many - 1))) fun q4 => some (⟨q4, x.v_where⟩ : T_name_encoder)

def m_name_encoder_name (k : Nat) (x : T_name_encoder) (s : Str) : Option T_name_encoder :=
  bi (loopM (σ := (List Int) × (List (Str × Int)) × Str) (ρ := (List (Str × Int)) × (List Int) × (List (Str × Int))) (fun s2 => bif !((s2.2.2 : Str) == []) then (bif (mGet x.v_where s2.2.2).isSome then (bi (m_name_encoder_number k (⟨s2.1, x.v_where⟩ : T_name_encoder) (bitsV .or .u64 49152 (IntKind.u64.wrap (((mGet x.v_where s2.2.2).getD 0)))) 2) fun y13 => some (.out (y13.v_where, y13.b, s2.2.1))) else (bi (m_strings_Cut s2.2.2 [46]) fun y16 => bi (apd s2.1 [IntKind.u8.wrap ((y16.1.length : Int))]) fun y18 => bi (apd y18 (bytesOf y16.1)) fun y20 => bif (y16.2.1 : Str) == [] then (bi (apd y20 [0]) fun y23 => some (.go (y23, (mSet s2.2.1 s2.2.2 (s2.1.length : Int)), y16.2.1))) else (some (.go (y20, (mSet s2.2.1 s2.2.2 (s2.1.length : Int)), y16.2.1))))) else (some (.out (x.v_where, s2.1, s2.2.1)))) k (x.b, ([] : List (Str × Int)), s)) fun q4 => bi (rangeP (σ := List (Str × Int)) (fun x34 s33 => some (mSet s33 x34.1 x34.2)) q4.2.2 q4.1) fun q38 => some (⟨q4.2.1, q38⟩ : T_name_encoder)

def m_name_encoder_record (k : Nat) (x : T_name_encoder) (v_r : T_api_Record) : Option T_name_encoder :=
  bi (m_name_encoder_name k x v_r.Name) fun y1 => bi (apd y1.b [IntKind.u8.wrap (v_r.Kind)]) fun y3 => bi (m_name_encoder_number k (⟨y3, y1.v_where⟩ : T_name_encoder) (IntKind.u64.wrap (v_r.Life)) 4) fun y5 => bif (v_r.Kind : Int) == 1 then (bi (m_name_encoder_number k y5 v_r.Addr.Lo 4) fun y8 => some y8) else (bif (v_r.Kind : Int) == 28 then (bi (m_name_encoder_number k y5 v_r.Addr.Hi 8) fun y12 => bi (m_name_encoder_number k y12 v_r.Addr.Lo 8) fun y14 => some y14) else (bif (v_r.Kind : Int) == 16 then (bi (apd y5.b [IntKind.u8.wrap ((v_r.Words.length : Int))]) fun y18 => bi (apd y18 (bytesOf v_r.Words)) fun y20 => some (⟨y20, y5.v_where⟩ : T_name_encoder)) else (bi (m_name_encoder_name k y5 v_r.To) fun y23 => some y23)))

def m_name_Encode (k : Nat) (m : T_api_Message) : Option ((List Int) × Int) :=
  bi (m_name_messageFault k m) fun y1 => bif (y1 : Int) != 0 then (some ([], y1)) else (bi (m_name_encoder_number k (⟨([] : List Int), ([] : List (Str × Int))⟩ : T_name_encoder) (IntKind.u64.wrap (m.Id)) 2) fun y5 => bi (bif m.Reply then (some 128) else (some 0)) fun q7 => bi (apd y5.b [q7, IntKind.u8.wrap (m.Code), IntKind.u8.wrap ((m.Asked.length : Int)), IntKind.u8.wrap ((m.Got.length : Int))]) fun y11 => bi (rangeF (σ := (List (Str × Int)) × (List Int)) (fun i13 x15 s14 => bi (m_name_encoder_name k (⟨s14.2, s14.1⟩ : T_name_encoder) x15.Name) fun y24 => bi (apd y24.b [IntKind.u8.wrap (x15.Kind)]) fun y26 => some (y24.v_where, y26)) 0 m.Asked (y5.v_where, y11)) fun q16 => bi (rangeF (σ := (List (Str × Int)) × (List Int)) (fun i28 x30 s29 => bi (m_name_encoder_record k (⟨s29.2, s29.1⟩ : T_name_encoder) x30) fun y39 => some (y39.v_where, y39.b)) 0 m.Got (q16.1, q16.2)) fun q31 => bif decide (((q31.2.length : Int) : Int) > 4096) then (some ([], 2)) else (some (q31.2, 0)))

def m_slices_Equal_byte_byte (s1 : List Int) (s2 : List Int) : Option Bool :=
  bif ((s1.length : Int) : Int) != (s2.length : Int) then (some false) else (bi (rangeM (σ := Unit) (ρ := Bool) (fun i3 x5 s4 => bi (getZ s2 (i3 : Int)) fun x14 => bif (x5 : Int) != x14 then (bi (some false) fun v => some (.out v)) else (some (.go ()))) 0 s1 ()) fun q => goI q fun a8 => some true)

def m_name_Decode (k : Nat) (b : List Int) : Option (T_api_Message × Int) :=
  bif decide (((b.length : Int) : Int) > 4096) then (some ((⟨0, false, 0, ([] : List T_api_Question), ([] : List T_api_Record)⟩ : T_api_Message), 2)) else (bi (m_name_decoder_number (⟨b, 0, false⟩ : T_name_decoder) 2) fun y3 => bi (m_name_decoder_number y3.2 1) fun y5 => bi (m_name_decoder_number y5.2 1) fun y7 => bi (m_name_decoder_number y7.2 1) fun y9 => bi (m_name_decoder_number y9.2 1) fun y11 => bi (bif (((y5.1 : Int) != 0) && (!((y5.1 : Int) == 128))) then (some true) else (some y11.2.bad)) fun q13 => bi (loopM (σ := T_name_decoder × (List T_api_Question) × Int) (ρ := T_name_decoder × (List T_api_Question)) (fun s18 => bif ((decide ((s18.2.2 : Int) < (wi (y9.1)))) && (!s18.1.bad)) then (bi (m_name_decoder_name k s18.1) fun y28 => bi (m_name_decoder_number y28.2 1) fun y30 => bi (apd s18.2.1 [(⟨y28.1, wi (y30.1)⟩ : T_api_Question)]) fun y32 => some (.go (y30.2, y32, wi (s18.2.2 + 1)))) else (some (.out (s18.1, s18.2.1)))) k ((⟨y11.2.b, y11.2.v_at, q13⟩ : T_name_decoder), ([] : List T_api_Question), 0)) fun q20 => bi (loopM (σ := T_name_decoder × (List T_api_Record) × Int) (ρ := T_name_decoder × (List T_api_Record)) (fun s36 => bif ((decide ((s36.2.2 : Int) < (wi (y11.1)))) && (!s36.1.bad)) then (bi (m_name_decoder_record k s36.1) fun y46 => bi (apd s36.2.1 [y46.1]) fun y48 => some (.go (y46.2, y48, wi (s36.2.2 + 1)))) else (some (.out (s36.1, s36.2.1)))) k (q20.1, ([] : List T_api_Record), 0)) fun q38 => bif (q38.1.bad || (decide ((q38.1.v_at : Int) < (b.length : Int)))) then (some ((⟨0, false, 0, ([] : List T_api_Question), ([] : List T_api_Record)⟩ : T_api_Message), 9)) else (bi (m_name_Encode k (⟨wi (y3.1), (y5.1 : Int) == 128, wi (y7.1), q20.2, q38.2⟩ : T_api_Message)) fun y53 => bi (bif (y53.2 : Int) != 0 then (some true) else (bi (m_slices_Equal_byte_byte y53.1 b) fun y59 => some (!y59))) fun q55 => bif q55 then (some ((⟨0, false, 0, ([] : List T_api_Question), ([] : List T_api_Record)⟩ : T_api_Message), 3)) else (some ((⟨wi (y3.1), (y5.1 : Int) == 128, wi (y7.1), q20.2, q38.2⟩ : T_api_Message), 0))))

def m_laneref1_bytesReader_take (v_r : T_laneref1_bytesReader) (bytes : Int) : Option (Int × T_laneref1_bytesReader) :=
  bi (gd (decide (bytes ≤ 9223372036854775807)) (rangeI (σ := T_laneref1_bytesReader × Int) (ρ := Int × T_laneref1_bytesReader) (fun i1 s2 => bi (bif s2.1.bad then (some true) else (some (decide ((s2.1.v_at : Int) ≥ (s2.1.b.length : Int))))) fun q13 => bif q13 then (bi (some (0, (⟨s2.1.b, s2.1.v_at, q13⟩ : T_laneref1_bytesReader))) fun v => some (.out v)) else (bi (getZ s2.1.b s2.1.v_at) fun x21 => some (.go ((⟨s2.1.b, wi (s2.1.v_at + 1), q13⟩ : T_laneref1_bytesReader), bitsV .or .u64 (shlV .u64 s2.2 8) (IntKind.u64.wrap (x21)))))) bytes (v_r, 0))) fun q => goI q fun a6 => some (a6.2, a6.1)

def m_laneref1_bytesReader_text (v_r : T_laneref1_bytesReader) (n : Int) : Option (Str × T_laneref1_bytesReader) :=
  bi (bif v_r.bad then (some true) else (some (decide ((wi (v_r.v_at + n) : Int) > (v_r.b.length : Int))))) fun q1 => bif q1 then (some ([], (⟨v_r.b, v_r.v_at, q1⟩ : T_laneref1_bytesReader))) else (bi (subZ v_r.b v_r.v_at (wi (v_r.v_at + n))) fun z7 => bi (strB z7) fun y9 => some (y9, (⟨v_r.b, wi (v_r.v_at + n), q1⟩ : T_laneref1_bytesReader)))

def m_laneref1_bytesReader_name : Nat → T_laneref1_bytesReader → Option (Str × T_laneref1_bytesReader)
  | 0, _ => none
  | k + 1, v_r => bi (loopM (σ := T_laneref1_bytesReader × (List Str)) (ρ := (T_laneref1_bytesReader × (List Str)) ⊕ (Str × T_laneref1_bytesReader)) (fun s2 => bif !s2.1.bad then (bi (m_laneref1_bytesReader_take s2.1 1) fun y12 => bif y12.2.bad then (some (.go (y12.2, s2.2))) else (bif (wi (y12.1) : Int) == 0 then (bi (m_strings_Join s2.2 [46]) fun y17 => bi (some (y17, y12.2)) fun v => some (.out (.inr v))) else (bif decide ((wi (y12.1) : Int) < 64) then (bi (m_laneref1_bytesReader_text y12.2 (wi (y12.1))) fun y23 => bi (apd s2.2 [y23.1]) fun y25 => some (.go (y23.2, y25))) else (bif decide ((wi (y12.1) : Int) < 192) then (some (.go ((⟨y12.2.b, y12.2.v_at, true⟩ : T_laneref1_bytesReader), s2.2))) else (bi (m_laneref1_bytesReader_take y12.2 1) fun y30 => bif (y30.2.bad || (decide ((wi ((wi ((wi ((wi (y12.1)) - 192)) * 256)) + (wi (y30.1))) : Int) ≥ v_r.v_at))) then (bi (some ([], (⟨y30.2.b, y30.2.v_at, (y30.2.bad || (decide ((wi ((wi ((wi ((wi (y12.1)) - 192)) * 256)) + (wi (y30.1))) : Int) ≥ v_r.v_at)))⟩ : T_laneref1_bytesReader))) fun v => some (.out (.inr v))) else (bi (m_laneref1_bytesReader_name k (⟨y30.2.b, wi ((wi ((wi ((wi (y12.1)) - 192)) * 256)) + (wi (y30.1))), false⟩ : T_laneref1_bytesReader)) fun y36 => bi (bif !((y36.1 : Str) == []) then (bi (apd s2.2 [y36.1]) fun y41 => some y41) else (some s2.2)) fun q38 => bi (m_strings_Join q38 [46]) fun y44 => bi (some (y44, (⟨y30.2.b, y30.2.v_at, y36.2.bad⟩ : T_laneref1_bytesReader))) fun v => some (.out (.inr v)))))))) else (some (.out (.inl (s2.1, s2.2))))) k (v_r, ([] : List Str))) fun q => orI q fun a6 => some ([], a6.1)

def m_laneref1_bytesReader_record (k : Nat) (v_r : T_laneref1_bytesReader) : Option (T_api_Record × T_laneref1_bytesReader) :=
  bi (m_laneref1_bytesReader_name k v_r) fun y1 => bi (m_laneref1_bytesReader_take y1.2 1) fun y3 => bi (m_laneref1_bytesReader_take y3.2 4) fun y5 => bi (bif (wi (y3.1) : Int) == 1 then (bi (m_laneref1_bytesReader_take y5.2 4) fun y10 => some (y10.2, (⟨y1.1, wi (y3.1), (⟨false, 0, y10.1⟩ : T_api_Addr), [], [], wi (y5.1)⟩ : T_api_Record))) else (bif (wi (y3.1) : Int) == 28 then (bi (m_laneref1_bytesReader_take y5.2 8) fun y14 => bi (m_laneref1_bytesReader_take y14.2 8) fun y16 => some (y16.2, (⟨y1.1, wi (y3.1), (⟨true, y14.1, y16.1⟩ : T_api_Addr), [], [], wi (y5.1)⟩ : T_api_Record))) else (bif (wi (y3.1) : Int) == 16 then (bi (m_laneref1_bytesReader_take y5.2 1) fun y20 => bi (m_laneref1_bytesReader_text y20.2 (wi (y20.1))) fun y22 => some (y22.2, (⟨y1.1, wi (y3.1), (⟨false, 0, 0⟩ : T_api_Addr), [], y22.1, wi (y5.1)⟩ : T_api_Record))) else (bi (bif (wi (y3.1) : Int) == 5 then (some ((wi (y3.1) : Int) == 5)) else (some ((wi (y3.1) : Int) == 12))) fun q25 => bif q25 then (bi (m_laneref1_bytesReader_name k y5.2) fun y30 => some (y30.2, (⟨y1.1, wi (y3.1), (⟨false, 0, 0⟩ : T_api_Addr), y30.1, [], wi (y5.1)⟩ : T_api_Record))) else (some ((⟨y5.2.b, y5.2.v_at, true⟩ : T_laneref1_bytesReader), (⟨y1.1, wi (y3.1), (⟨false, 0, 0⟩ : T_api_Addr), [], [], wi (y5.1)⟩ : T_api_Record))))))) fun q7 => some (q7.2, q7.1)

def m_laneref1_EncodeOf (k : Nat) (m : T_api_Message) : Option ((List Int) × Int) :=
  bi (m_laneref1_MessageFault m) fun y1 => bif (y1 : Int) != 0 then (some ([], y1)) else (bi (m_laneref1_MessageBytes k m) fun y5 => bif decide (((y5.length : Int) : Int) > 4096) then (some ([], 2)) else (some (y5, 0)))

def m_laneref1_DecodeOf (k : Nat) (b : List Int) : Option (T_api_Message × Int) :=
  bif decide (((b.length : Int) : Int) > 4096) then (some ((⟨0, false, 0, ([] : List T_api_Question), ([] : List T_api_Record)⟩ : T_api_Message), 2)) else (bi (m_laneref1_bytesReader_take (⟨b, 0, false⟩ : T_laneref1_bytesReader) 2) fun y3 => bi (m_laneref1_bytesReader_take y3.2 1) fun y5 => bi (m_laneref1_bytesReader_take y5.2 1) fun y7 => bi (m_laneref1_bytesReader_take y7.2 1) fun y9 => bi (m_laneref1_bytesReader_take y9.2 1) fun y11 => bif (y11.2.bad || (((y5.1 : Int) != 0) && ((y5.1 : Int) != 128))) then (some ((⟨0, false, 0, ([] : List T_api_Question), ([] : List T_api_Record)⟩ : T_api_Message), 9)) else (bi (gd (decide ((wi (y9.1)) ≤ 9223372036854775807)) (rangeG (σ := T_laneref1_bytesReader × (List T_api_Question)) (fun i15 s16 => bi (m_laneref1_bytesReader_name k s16.1) fun y27 => bi (m_laneref1_bytesReader_take y27.2 1) fun y29 => bi (apd s16.2 [(⟨y27.1, wi (y29.1)⟩ : T_api_Question)]) fun y31 => some (y29.2, y31)) (wi (y9.1)) (y11.2, ([] : List T_api_Question)))) fun q18 => bi (gd (decide ((wi (y11.1)) ≤ 9223372036854775807)) (rangeG (σ := T_laneref1_bytesReader × (List T_api_Record)) (fun i33 s34 => bi (m_laneref1_bytesReader_record k s34.1) fun y45 => bi (apd s34.2 [y45.1]) fun y47 => some (y45.2, y47)) (wi (y11.1)) (q18.1, ([] : List T_api_Record)))) fun q36 => bif (q36.1.bad || ((q36.1.v_at : Int) != (b.length : Int))) then (some ((⟨0, false, 0, ([] : List T_api_Question), ([] : List T_api_Record)⟩ : T_api_Message), 9)) else (bi (m_laneref1_EncodeOf k (⟨wi (y3.1), (y5.1 : Int) == 128, wi (y7.1), q18.2, q36.2⟩ : T_api_Message)) fun y51 => bi (bif (y51.2 : Int) != 0 then (some true) else (bi (m_slices_Equal_byte_byte y51.1 b) fun y57 => some (!y57))) fun q53 => bif q53 then (some ((⟨0, false, 0, ([] : List T_api_Question), ([] : List T_api_Record)⟩ : T_api_Message), 3)) else (some ((⟨wi (y3.1), (y5.1 : Int) == 128, wi (y7.1), q18.2, q36.2⟩ : T_api_Message), 0)))))

def m_slices_Equal_api_Question_api_Question (s1 : List T_api_Question) (s2 : List T_api_Question) : Option Bool :=
  bif ((s1.length : Int) : Int) != (s2.length : Int) then (some false) else (bi (rangeM (σ := Unit) (ρ := Bool) (fun i3 x5 s4 => bi (getZ s2 (i3 : Int)) fun x14 => bif !(((x5.Name : Str) == x14.Name) && (((x5.Kind : Int) == x14.Kind) && true)) then (bi (some false) fun v => some (.out v)) else (some (.go ()))) 0 s1 ()) fun q => goI q fun a8 => some true)

def m_slices_Equal_api_Record_api_Record (s1 : List T_api_Record) (s2 : List T_api_Record) : Option Bool :=
  bif ((s1.length : Int) : Int) != (s2.length : Int) then (some false) else (bi (rangeM (σ := Unit) (ρ := Bool) (fun i3 x5 s4 => bi (getZ s2 (i3 : Int)) fun x14 => bif !(((x5.Name : Str) == x14.Name) && (((x5.Kind : Int) == x14.Kind) && ((((x5.Addr.Six : Bool) == x14.Addr.Six) && (((x5.Addr.Hi : Int) == x14.Addr.Hi) && (((x5.Addr.Lo : Int) == x14.Addr.Lo) && true))) && (((x5.To : Str) == x14.To) && (((x5.Words : Str) == x14.Words) && (((x5.Life : Int) == x14.Life) && true)))))) then (bi (some false) fun v => some (.out v)) else (some (.go ()))) 0 s1 ()) fun q => goI q fun a8 => some true)

def m_laneref1_SameMessage (a : T_api_Message) (b : T_api_Message) : Option Bool :=
  bi (bif ((((a.Id : Int) == b.Id) && ((a.Reply : Bool) == b.Reply)) && ((a.Code : Int) == b.Code)) then (bi (m_slices_Equal_api_Question_api_Question a.Asked b.Asked) fun y4 => some y4) else (some false)) fun q1 => bi (bif q1 then (bi (m_slices_Equal_api_Record_api_Record a.Got b.Got) fun y10 => some y10) else (some false)) fun q7 => some q7

def m_name_Label (s : Str) : Option Str :=
  bi (gd (decide ((s.length : Int) ≤ 9223372036854775807)) (rangeG (σ := List Int) (fun i1 s2 => bi (getZ s (i1 : Int)) fun c13 => bi (bif ((decide (((c13.toNat : Int) : Int) ≥ 65)) && (decide (((c13.toNat : Int) : Int) ≤ 90))) then (some (IntKind.u8.wrap ((c13.toNat : Int) + 32))) else (some (c13.toNat : Int))) fun q15 => bi (m_name_isLetter q15) fun y19 => bif y19 then (bi (apd s2 [q15]) fun y22 => some y22) else (bi (bif ((s2.length : Int) : Int) == 0 then (some true) else (bi (getZ s2 (wi ((s2.length : Int) - 1))) fun x29 => some ((x29 : Int) != 45))) fun q25 => bif q25 then (bi (apd s2 [45]) fun y33 => some y33) else (some s2))) (s.length : Int) ([] : List Int))) fun q4 => bi (subZ q4 0 (if 63 < (q4.length : Int) then 63 else (q4.length : Int))) fun z36 => bi (strB z36) fun y38 => bi (m_strings_Trim y38 [45]) fun y40 => bif (y40 : Str) == [] then (some [110, 111, 100, 101]) else (some y40)

def m_lanelaw1_named (k : Nat) : Option Bool :=
  bi (m_name_Label [65, 32, 98]) fun y1 => bi (bif (y1 : Str) == [97, 45, 98] then (bi (m_name_CheckDomain k [97, 46, 46, 98]) fun y6 => some ((y6 : Int) == 5)) else (some false)) fun q3 => some q3

def m_lanelaw1_MessagesRead (k : Nat) (l : List Int) : Option Bool :=
  bi (m_lanemake_Stream_MessageRow k (⟨l, 0⟩ : T_lanemake_Stream)) fun y1 => bi (m_name_Decode k y1.1) fun y3 => bi (m_laneref1_DecodeOf k y1.1) fun y5 => bi (bif (y3.2 : Int) == y5.2 then (bi (m_laneref1_SameMessage y3.1 y5.1) fun y10 => some y10) else (some false)) fun q7 => bi (bif q7 then (bi (m_lanelaw1_named k) fun y16 => some y16) else (some false)) fun q13 => some q13

end
end Go.Gk
