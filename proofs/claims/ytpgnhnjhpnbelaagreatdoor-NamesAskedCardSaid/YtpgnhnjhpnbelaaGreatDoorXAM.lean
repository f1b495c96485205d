/-
  Models of functions.
-/
import Derived.Test.YtpgnhnjhpnbelaaGreatDoorMStr3
set_option linter.unusedVariables false
namespace Go.Gk
structure T_lanemake_Stream where
  L : List Int
  v_at : Int
  deriving DecidableEq
structure T_api_Split where
  Suffix : Str
  Servers : List Str
  deriving DecidableEq
structure T_api_Addr where
  Six : Bool
  Hi : Int
  Lo : Int
  deriving DecidableEq
structure T_api_Record where
  Name : Str
  Kind : Int
  Addr : T_api_Addr
  To : Str
  Words : Str
  Life : Int
  deriving DecidableEq
structure T_api_Zone where
  Root : Str
  Records : List T_api_Record
  deriving DecidableEq
structure T_api_Source where
  Server : Str
  Zones : List T_api_Zone
  deriving DecidableEq
structure T_api_Net where
  Search : List Str
  Dots : Int
  Splits : List T_api_Split
  Sources : List T_api_Source
  deriving DecidableEq
structure T_api_Answer where
  Name : Str
  Server : Str
  Records : List T_api_Record
  deriving DecidableEq

def m_lanemake_Below (x : Int) (n : Int) : Option Int :=
  bif decide ((n : Int) < 1) then (some 0) else (bi (remZ x n) fun y3 => bi (bif decide ((y3 : Int) < 0) then (some (wi (y3 + n))) else (some y3)) fun q5 => some q5)

def m_lanemake_Stream_Next (s : T_lanemake_Stream) (n : Int) : Option (Int × T_lanemake_Stream) :=
  bif ((s.L.length : Int) : Int) == 0 then (bi (m_lanemake_Below (wi ((wi (s.v_at + 1)) * 7919)) n) fun y2 => some (y2, (⟨s.L, wi (s.v_at + 1)⟩ : T_lanemake_Stream))) else (bi (remZ (wi ((wi (s.v_at + 1)) - 1)) (s.L.length : Int)) fun y5 => bi (divZ .i64 (wi ((wi (s.v_at + 1)) - 1)) (s.L.length : Int)) fun y7 => bi (getZ s.L y5) fun x9 => bi (m_lanemake_Below x9 1073741824) fun y11 => bi (m_lanemake_Below (wi (y11 + (wi (y7 * (wi (7919 + y5)))))) n) fun y13 => some (y13, (⟨s.L, wi (s.v_at + 1)⟩ : T_lanemake_Stream)))

def m_lanemake_Stream_Flip (s : T_lanemake_Stream) (n : Int) : Option (Bool × T_lanemake_Stream) :=
  bi (m_lanemake_Stream_Next s n) fun y1 => some ((y1.1 : Int) == 0, y1.2)

def m_slices_Clone_string_string (s : List Str) : Option (List Str) :=
  bi (apd ([] : List Str) s) fun y1 => some y1

def m_lanemake_Stream_Some (s : T_lanemake_Stream) (l : List Str) : Option (Str × T_lanemake_Stream) :=
  bi (m_lanemake_Stream_Next s (l.length : Int)) fun y1 => bi (getZ l y1.1) fun x3 => some (x3, y1.2)

def m_lanemake_Stream_Domain (s : T_lanemake_Stream) : Option (Str × T_lanemake_Stream) :=
  bi (m_lanemake_Stream_Flip s 12) fun y1 => bif y1.1 then (bi (m_strings_Repeat [97] 64) fun y4 => bi (m_strings_Repeat [97, 98, 99, 46] 63) fun y6 => bi (catZ y6 [120]) fun y8 => bi (m_strings_Repeat [97, 98, 99, 46] 63) fun y10 => bi (catZ y10 [120, 121]) fun y12 => bi (m_lanemake_Stream_Some y1.2 [[], [46], [97, 46, 46, 98], [45, 97], [65, 46, 98], [97, 95, 98], [95, 120, 46, 121], y4, y8, y12, [97, 46]]) fun y14 => some (y14.1, y14.2)) else (bi (m_lanemake_Stream_Some y1.2 [[110, 101, 116, 46, 120], [97, 46, 110, 101, 116, 46, 120], [98, 46, 110, 101, 116, 46, 120], [99, 46, 110, 101, 116, 46, 120], [97, 46, 98, 46, 110, 101, 116, 46, 120], [108, 97, 98, 46, 110, 101, 116, 46, 120], [113, 46, 108, 97, 98, 46, 110, 101, 116, 46, 120], [120], [97, 110, 101, 116, 46, 120], [111, 116, 104, 101, 114], [97], [98]]) fun y17 => some (y17.1, y17.2))

def m_lanemake_Stream_Search (s : T_lanemake_Stream) : Option ((List Str) × T_lanemake_Stream) :=
  bi (m_lanemake_Stream_Next s 5) fun y1 => bi (getZ [[], [[110, 101, 116, 46, 120]], [[108, 97, 98, 46, 110, 101, 116, 46, 120], [110, 101, 116, 46, 120]], [[110, 101, 116, 46, 120], [110, 101, 116, 46, 120]], [[110, 101, 116, 46, 120], [111, 116, 104, 101, 114]]] y1.1) fun x3 => bi (m_lanemake_Stream_Flip y1.2 20) fun y5 => bif y5.1 then (bi (m_slices_Clone_string_string x3) fun y8 => bi (m_lanemake_Stream_Domain y5.2) fun y10 => bi (apd y8 [y10.1]) fun y12 => some (y12, y10.2)) else (some (x3, y5.2))

def m_lanemake_Stream_Pick (s : T_lanemake_Stream) (l : List Int) : Option (Int × T_lanemake_Stream) :=
  bi (m_lanemake_Stream_Next s (l.length : Int)) fun y1 => bi (getZ l y1.1) fun x3 => some (x3, y1.2)

def m_lanemake_Stream_Splits (s : T_lanemake_Stream) : Option ((List T_api_Split) × T_lanemake_Stream) :=
  bi (rangeF (σ := T_lanemake_Stream × (List T_api_Split)) (fun i1 x3 s2 => bi (m_lanemake_Stream_Flip s2.1 4) fun y12 => bif !y12.1 then (bi (m_lanemake_Stream_Next y12.2 4) fun y15 => bi (getZ [[[105, 110]], [[110, 111, 110, 101], [105, 110]], [[111, 117, 116], [105, 110]], [[111, 117, 116]]] y15.1) fun x17 => bi (apd s2.2 [(⟨x3, x17⟩ : T_api_Split)]) fun y19 => some (y15.2, y19)) else (some (y12.2, s2.2))) 0 [[], [97, 46, 110, 101, 116, 46, 120], [110, 101, 116, 46, 120], [111, 116, 104, 101, 114]] (s, ([] : List T_api_Split))) fun q4 => bi (m_lanemake_Stream_Flip q4.1 20) fun y22 => bi (bif y22.1 then (bi (m_lanemake_Stream_Domain y22.2) fun y27 => bi (m_lanemake_Stream_Next y27.2 4) fun y29 => bi (getZ [[], [[]], [[97], [97]], [[97]]] y29.1) fun x31 => bi (apd q4.2 [(⟨y27.1, x31⟩ : T_api_Split)]) fun y33 => some (y29.2, y33)) else (some (y22.2, q4.2))) fun q24 => some (q24.2, q24.1)

def m_lanemake_Stream_Range (s : T_lanemake_Stream) (low : Int) (high : Int) : Option (Int × T_lanemake_Stream) :=
  bif decide ((high : Int) < low) then (some (low, s)) else (bi (m_lanemake_Stream_Next s (wi ((wi (high - low)) + 1))) fun y3 => some (wi (low + y3.1), y3.2))

def m_lanemake_at (n : Int) : Option T_api_Addr :=
  some (⟨false, 0, IntKind.u64.wrap (1681915904 + (IntKind.u64.wrap (n)))⟩ : T_api_Addr)

def m_lanemake_sixAt (n : Int) : Option T_api_Addr :=
  some (⟨true, 18230571291595767808, IntKind.u64.wrap (n)⟩ : T_api_Addr)

def m_lanemake_Stream_Addr (s : T_lanemake_Stream) : Option (T_api_Addr × T_lanemake_Stream) :=
  bi (m_lanemake_Stream_Next s 6) fun y1 => bif (y1.1 : Int) == 0 then (bi (m_lanemake_Stream_Next y1.2 5) fun y4 => bi (getZ [0, 18230571291595767808, 2306139568115548160, 9223372036854775808, 18446744073709551615] y4.1) fun x6 => bi (m_lanemake_Stream_Next y4.2 5) fun y8 => bi (getZ [0, 1, 2, 4294967296, 18446744073709551615] y8.1) fun x10 => some ((⟨true, x6, x10⟩ : T_api_Addr), y8.2)) else (bif (y1.1 : Int) == 1 then (bi (m_lanemake_Stream_Next y1.2 5) fun y14 => bi (getZ [0, 1, 4294967295, 2130706433, 3232235521] y14.1) fun x16 => some ((⟨false, 0, x16⟩ : T_api_Addr), y14.2)) else (bif (y1.1 : Int) == 2 then (bi (m_lanemake_Stream_Range y1.2 0 16777216) fun y20 => bi (remZ (IntKind.u64.wrap ((IntKind.u64.wrap (y20.1)) * 251)) 4294967296) fun y22 => some ((⟨false, 0, y22⟩ : T_api_Addr), y20.2)) else (bi (m_lanemake_Stream_Range y1.2 0 20) fun y25 => some ((⟨false, 0, IntKind.u64.wrap (167772160 + (IntKind.u64.wrap (y25.1)))⟩ : T_api_Addr), y25.2))))

def m_lanemake_Stream_Raw (s : T_lanemake_Stream) : Option (T_api_Addr × T_lanemake_Stream) :=
  bi (m_lanemake_Stream_Addr s) fun y1 => bi (m_lanemake_Stream_Flip y1.2 15) fun y3 => bif y3.1 then (bi (m_lanemake_Stream_Next y3.2 2) fun y6 => bi (m_lanemake_Stream_Next y6.2 3) fun y8 => bi (getZ [4294967296, 5, 1099511627776] y8.1) fun x10 => some ((⟨false, IntKind.u64.wrap (y6.1), x10⟩ : T_api_Addr), y8.2)) else (some (y1.1, y3.2))

def m_lanemake_Stream_Odd (s : T_lanemake_Stream) (low : Int) (high : Int) : Option (Int × T_lanemake_Stream) :=
  bi (m_lanemake_Stream_Flip s 12) fun y1 => bif y1.1 then (bi (m_lanemake_Stream_Pick y1.2 [wi (low - 1), wi (high + 1), low, high, -1099511627776, 1099511627776]) fun y4 => some (y4.1, y4.2)) else (bi (m_lanemake_Stream_Range y1.2 low high) fun y7 => some (y7.1, y7.2))

def m_lanemake_Stream_record (s : T_lanemake_Stream) (name : Str) : Option (T_api_Record × T_lanemake_Stream) :=
  bi (m_lanemake_Stream_Pick s [0, 5, 60, 1000000]) fun y1 => bi (m_lanemake_Stream_Next y1.2 7) fun y3 => bi (bi (bif (y3.1 : Int) == 0 then (some ((y3.1 : Int) == 0)) else (some ((y3.1 : Int) == 1))) fun q7 => bif q7 then (bi (m_lanemake_Stream_Range y3.2 1 3) fun y12 => bi (m_lanemake_at y12.1) fun y14 => some (y12.2, (⟨name, 1, y14, [], [], y1.1⟩ : T_api_Record))) else (bif (y3.1 : Int) == 2 then (bi (m_lanemake_Stream_Range y3.2 1 3) fun y18 => bi (m_lanemake_sixAt y18.1) fun y20 => some (y18.2, (⟨name, 28, y20, [], [], y1.1⟩ : T_api_Record))) else (bif (y3.1 : Int) == 3 then (bi (m_lanemake_Stream_Some y3.2 [[], [104, 105], [97, 32, 98], [118, 61, 49]]) fun y24 => some (y24.2, (⟨name, 16, (⟨false, 0, 0⟩ : T_api_Addr), [], y24.1, y1.1⟩ : T_api_Record))) else (bif (y3.1 : Int) == 4 then (bi (m_lanemake_Stream_Some y3.2 [[97, 46, 110, 101, 116, 46, 120], [98, 46, 110, 101, 116, 46, 120]]) fun y28 => some (y28.2, (⟨name, 12, (⟨false, 0, 0⟩ : T_api_Addr), y28.1, [], y1.1⟩ : T_api_Record))) else (bi (m_lanemake_Stream_Some y3.2 [[97, 46, 110, 101, 116, 46, 120], [98, 46, 110, 101, 116, 46, 120], [99, 46, 110, 101, 116, 46, 120], [113, 46, 108, 97, 98, 46, 110, 101, 116, 46, 120], [100, 46, 110, 101, 116, 46, 120], [111, 116, 104, 101, 114]]) fun y31 => some (y31.2, (⟨name, 5, (⟨false, 0, 0⟩ : T_api_Addr), y31.1, [], y1.1⟩ : T_api_Record))))))) fun q5 => bi (m_lanemake_Stream_Flip q5.1 40) fun y33 => bi (bif y33.1 then (bi (m_lanemake_Stream_Next y33.2 4) fun y38 => bif (y38.1 : Int) == 0 then (bi (m_lanemake_Stream_Pick y38.2 [0, 2, 5]) fun y41 => some (y41.2, (⟨q5.2.Name, y41.1, q5.2.Addr, q5.2.To, q5.2.Words, q5.2.Life⟩ : T_api_Record))) else (bif (y38.1 : Int) == 1 then (bi (m_lanemake_Stream_Raw y38.2) fun y45 => some (y45.2, (⟨q5.2.Name, q5.2.Kind, y45.1, q5.2.To, q5.2.Words, q5.2.Life⟩ : T_api_Record))) else (bif (y38.1 : Int) == 2 then (bi (m_lanemake_Stream_Some y38.2 [[], [65], [120]]) fun y49 => some (y49.2, (⟨q5.2.Name, q5.2.Kind, q5.2.Addr, y49.1, q5.2.Words, q5.2.Life⟩ : T_api_Record))) else (bi (m_lanemake_Stream_Some y38.2 [[32, 120], [97, 10, 98], [], [121]]) fun y52 => bi (m_lanemake_Stream_Odd y52.2 0 1000000) fun y54 => some (y54.2, (⟨q5.2.Name, q5.2.Kind, q5.2.Addr, q5.2.To, y52.1, y54.1⟩ : T_api_Record)))))) else (some (y33.2, q5.2))) fun q35 => some (q35.2, q35.1)

def m_cmp_isNaN_int (x : Int) : Option Bool :=
  some ((x : Int) != x)

def m_cmp_Compare_int (x : Int) (y : Int) : Option Int :=
  bi (m_cmp_isNaN_int x) fun y1 => bi (m_cmp_isNaN_int y) fun y3 => bif y1 then (bif y3 then (some 0) else (some (-1))) else (bif y3 then (some 1) else (bif decide ((x : Int) < y) then (some (-1)) else (bif decide ((x : Int) > y) then (some 1) else (some 0))))

def m_slices_Compare_int_int (s1 : List Int) (s2 : List Int) : Option Int :=
  bi (rangeM (σ := Unit) (ρ := Int) (fun i1 x4 s3 => bif decide (((i1 : Int) : Int) ≥ (s2.length : Int)) then (bi (some 1) fun v => some (.out v)) else (bi (getZ s2 (i1 : Int)) fun x17 => bi (m_cmp_Compare_int x4 x17) fun y19 => bif (y19 : Int) != 0 then (bi (some y19) fun v => some (.out v)) else (some (.go ())))) 0 s1 ()) fun q => goI q fun a7 => bif decide (((s1.length : Int) : Int) < (s2.length : Int)) then (some (-1)) else (some 0)

def m_lanemake_Stream_Zone_1 (a : T_api_Record) (b : T_api_Record) : Option Int :=
  bi (m_slices_Compare_int_int [a.Kind, wi (a.Addr.Lo)] [b.Kind, wi (b.Addr.Lo)]) fun y1 => some y1

def m_slices_insertionSortCmpFunc_api_Record (k : Nat) (data : List T_api_Record) (a : Int) (b : Int) : Option (List T_api_Record) :=
  bi (loopM (σ := (List T_api_Record) × Int) (ρ := List T_api_Record) (fun s2 => bif decide ((s2.2 : Int) < b) then (bi (loopM (σ := (List T_api_Record) × Int) (ρ := List T_api_Record) (fun s13 => bi (bif decide ((s13.2 : Int) > a) then (bi (getZ s13.1 s13.2) fun x25 => bi (getZ s13.1 (wi (s13.2 - 1))) fun x28 => bi (m_lanemake_Stream_Zone_1 x25 x28) fun y31 => some (decide ((y31 : Int) < 0))) else (some false)) fun q22 => bif q22 then (bi (getZ s13.1 (wi (s13.2 - 1))) fun x35 => bi (getZ s13.1 s13.2) fun x38 => bi (getZ s13.1 s13.2) fun x41 => bi (getZ s13.1 (wi (s13.2 - 1))) fun x44 => some (.go ((s13.1.set s13.2.toNat x35).set ((wi (s13.2 - 1)).toNat) x38, wi (s13.2 - 1)))) else (some (.out s13.1))) k (s2.1, s2.2)) fun q15 => some (.go (q15, wi (s2.2 + 1)))) else (some (.out s2.1))) k (data, wi (a + 1))) fun q4 => some q4

def m_slices_stableCmpFunc_api_Record (k : Nat) (data : List T_api_Record) (n : Int) : Option (List T_api_Record) :=
  bi (loopM (σ := (List T_api_Record) × Int × Int) (ρ := (List T_api_Record) × Int) (fun s2 => bif decide ((s2.2.2 : Int) ≤ n) then (bi (m_slices_insertionSortCmpFunc_api_Record k s2.1 s2.2.1 s2.2.2) fun y12 => gd (decide (y12.length = s2.1.length)) (some (.go (y12, s2.2.2, wi (s2.2.2 + 20))))) else (some (.out (s2.1, s2.2.1)))) k (data, 0, 20)) fun q4 => bi (m_slices_insertionSortCmpFunc_api_Record k q4.1 q4.2 n) fun y17 => gd (decide (y17.length = q4.1.length)) (bi (loopM (σ := Int) (ρ := Unit) (fun s22 => bif decide ((s22 : Int) < n) then (bi (loopM (σ := Unit) (ρ := Unit) (fun s33 => bif decide ((wi (2 * s22) : Int) ≤ n) then none else (some (.out ()))) k ()) fun q35 => bif decide ((wi (0 + s22) : Int) < n) then none else (some (.go (wi (s22 * 2))))) else (some (.out ()))) k 20) fun q24 => some y17)

def m_slices_SortStableFunc_api_Record_api_Record (k : Nat) (x : List T_api_Record) : Option (List T_api_Record) :=
  bi (m_slices_stableCmpFunc_api_Record k x (x.length : Int)) fun y1 => some y1

def m_lanemake_Stream_Zone_2 (a : T_api_Record) (b : T_api_Record) (x : T_lanemake_Stream) : Option (Bool × T_lanemake_Stream) :=
  bi (bif (((a.Kind : Int) == b.Kind) && (((((a.Addr.Six : Bool) == b.Addr.Six) && (((a.Addr.Hi : Int) == b.Addr.Hi) && (((a.Addr.Lo : Int) == b.Addr.Lo) && true))) && (!(((a.Addr.Six : Bool) == false) && (((a.Addr.Hi : Int) == 0) && (((a.Addr.Lo : Int) == 0) && true))))) || (((a.Addr.Six : Bool) == false) && (((a.Addr.Hi : Int) == 0) && (((a.Addr.Lo : Int) == 0) && true))))) then (bi (m_lanemake_Stream_Flip x 20) fun y4 => some (y4.2, !y4.1)) else (some (x, false))) fun q1 => some (q1.2, q1.1)

def m_slices_CompactFunc_api_Record_api_Record (k : Nat) (s : List T_api_Record) (f : T_lanemake_Stream) : Option ((List T_api_Record) × T_lanemake_Stream) :=
  bif decide (((s.length : Int) : Int) < 2) then (some (s, f)) else (bi (loopM (σ := T_lanemake_Stream × Int) (ρ := T_lanemake_Stream ⊕ ((List T_api_Record) × T_lanemake_Stream)) (fun s4 => bif decide ((s4.2 : Int) < (s.length : Int)) then (bi (getZ s s4.2) fun x14 => bi (getZ s (wi (s4.2 - 1))) fun x17 => bi (m_lanemake_Stream_Zone_2 x14 x17 s4.1) fun y20 => bif y20.1 then (bi (subZ s s4.2 (s.length : Int)) fun z23 => bi (loopM (σ := (List T_api_Record) × T_lanemake_Stream × Int × Int) (ρ := (List T_api_Record) × T_lanemake_Stream × Int) (fun s26 => bif decide ((s26.2.2.2 : Int) < (z23.length : Int)) then (bi (getZ z23 s26.2.2.2) fun x36 => bi (getZ s26.1 (((s4.2.toNat + s26.2.2.2.toNat) : Nat) : Int)) fun x38 => bi (getZ z23 (wi (s26.2.2.2 - 1))) fun x41 => bi (getZ s26.1 (((s4.2.toNat + (wi (s26.2.2.2 - 1)).toNat) : Nat) : Int)) fun x43 => bi (m_lanemake_Stream_Zone_2 x38 x43 s26.2.1) fun y46 => bif !y46.1 then (bi (getZ z23 s26.2.2.2) fun x49 => bi (getZ s26.1 (((s4.2.toNat + s26.2.2.2.toNat) : Nat) : Int)) fun x51 => bi (getZ s26.1 s26.2.2.1) fun x54 => some (.go (s26.1.set s26.2.2.1.toNat x51, y46.2, wi (s26.2.2.1 + 1), wi (s26.2.2.2 + 1)))) else (some (.go (s26.1, y46.2, s26.2.2.1, wi (s26.2.2.2 + 1))))) else (some (.out (s26.1, s26.2.1, s26.2.2.1)))) k (s, y20.2, s4.2, 1)) fun q28 => bi (subZ q28.1 q28.2.2 (q28.1.length : Int)) fun z59 => bi (some (q28.1.take q28.2.2.toNat, q28.2.1)) fun v => some (.out (.inr v))) else (some (.go (y20.2, wi (s4.2 + 1))))) else (some (.out (.inl s4.1)))) k (f, 1)) fun q => orI q fun a8 => some (s, a8))

def m_lanemake_Stream_Zone (k : Nat) (s : T_lanemake_Stream) : Option (T_api_Zone × T_lanemake_Stream) :=
  bi (rangeF (σ := T_lanemake_Stream × (List T_api_Record)) (fun i1 x3 s2 => bi (m_lanemake_Stream_Flip s2.1 3) fun y12 => bif y12.1 then (some (y12.2, s2.2)) else (bi (m_lanemake_Stream_Pick y12.2 [1, 1, 2, 3]) fun y16 => bi (gd (decide (y16.1 ≤ 9223372036854775807)) (rangeG (σ := T_lanemake_Stream × (List T_api_Record)) (fun i18 s19 => bi (m_lanemake_Stream_record s19.1 x3) fun y30 => bi (bif ((s19.2.length : Int) : Int) == 0 then (some true) else (bi (bif (y30.1.Kind : Int) != 5 then (bi (getZ s19.2 0) fun x39 => some ((x39.Kind : Int) != 5)) else (some false)) fun q36 => some q36)) fun q32 => bi (bif q32 then (some (y30.2, true)) else (bi (m_lanemake_Stream_Flip y30.2 15) fun y47 => some (y47.2, y47.1))) fun q43 => bif q43.2 then (bi (apd s19.2 [y30.1]) fun y50 => some (q43.1, y50)) else (some (q43.1, s19.2))) y16.1 (y16.2, ([] : List T_api_Record)))) fun q21 => bi (m_slices_SortStableFunc_api_Record_api_Record k q21.2) fun y53 => gd (decide (y53.length = q21.2.length)) (bi (m_slices_CompactFunc_api_Record_api_Record k y53 q21.1) fun y57 => bi (apd s2.2 y57.1) fun y59 => some (y57.2, y59)))) 0 [[42, 46, 108, 97, 98, 46, 110, 101, 116, 46, 120], [42, 46, 110, 101, 116, 46, 120], [97, 46, 110, 101, 116, 46, 120], [98, 46, 110, 101, 116, 46, 120], [99, 46, 110, 101, 116, 46, 120], [100, 101, 101, 112, 46, 97, 46, 110, 101, 116, 46, 120], [110, 101, 116, 46, 120], [115, 46, 116, 46, 110, 101, 116, 46, 120]] (s, ([] : List T_api_Record))) fun q4 => bi (m_lanemake_Stream_Flip q4.1 30) fun y61 => bi (bif y61.1 then (bi (m_lanemake_Stream_Domain y61.2) fun y66 => some (y66.2, y66.1)) else (some (y61.2, [110, 101, 116, 46, 120]))) fun q63 => some ((⟨q63.2, q4.2⟩ : T_api_Zone), q63.1)

def m_laneref1_LabelForm (s : Str) : Option Bool :=
  bif decide (((s.length : Int) : Int) > 63) then (some false) else (bi (m_strings_TrimPrefix s [95]) fun y3 => bi (bif !((y3 : Str) == []) then (bi (m_strings_Trim y3 [97, 98, 99, 100, 101, 102, 103, 104, 105, 106, 107, 108, 109, 110, 111, 112, 113, 114, 115, 116, 117, 118, 119, 120, 121, 122, 48, 49, 50, 51, 52, 53, 54, 55, 56, 57, 45]) fun y8 => some ((y8 : Str) == [])) else (some false)) fun q5 => bi (bif q5 then (bi (getZ y3 0) fun c14 => some (((c14.toNat : Int) : Int) != 45)) else (some false)) fun q11 => bi (bif q11 then (bi (getZ y3 (wi ((y3.length : Int) - 1))) fun c20 => some (((c20.toNat : Int) : Int) != 45)) else (some false)) fun q17 => some q17)

def m_laneref1_DomainFault (s : Str) : Option Int :=
  bif decide (((s.length : Int) : Int) > 253) then (some 2) else (bi (m_strings_Split s [46]) fun y3 => bi (rangeM (σ := Unit) (ρ := Int) (fun i5 x7 s6 => bi (m_laneref1_LabelForm x7) fun y16 => bif !y16 then (bi (some 5) fun v => some (.out v)) else (some (.go ()))) 0 y3 ()) fun q => goI q fun a10 => some 0)

def m_laneref1_Kinds  : Option (List Int) :=
  some [1, 5, 12, 16, 28]

def m_slices_Index_int_int (s : List Int) (v : Int) : Option Int :=
  bi (rangeM (σ := Unit) (ρ := Int) (fun i1 x3 s2 => bif (v : Int) == x3 then (bi (some (i1 : Int)) fun v => some (.out v)) else (some (.go ()))) 0 s ()) fun q => goI q fun a6 => some (-1)

def m_slices_Contains_int_int (s : List Int) (v : Int) : Option Bool :=
  bi (m_slices_Index_int_int s v) fun y1 => some (decide ((y1 : Int) ≥ 0))

def m_laneref2_AddrFault (a : T_api_Addr) : Option Int :=
  bif ((!a.Six) && ((decide ((a.Hi : Int) > 0)) || (decide ((a.Lo : Int) > 4294967295)))) then (some 3) else (some 0)

def m_laneref1_plain (s : Str) : Option Bool :=
  bi (gd (decide ((s.length : Int) ≤ 9223372036854775807)) (rangeI (σ := Unit) (ρ := Bool) (fun i1 s2 => bi (getZ s (i1 : Int)) fun c13 => bi (bif decide (((c13.toNat : Int) : Int) < 32) then (some true) else (bi (getZ s (i1 : Int)) fun c19 => some (((c19.toNat : Int) : Int) == 127))) fun q15 => bif q15 then (bi (some false) fun v => some (.out v)) else (some (.go ()))) (s.length : Int) ())) fun q => goI q fun a6 => bi (m_utf8_ValidString s) fun y25 => bi (bif y25 then (bi (m_strings_Trim s [32]) fun y30 => some ((s : Str) == y30)) else (some false)) fun q27 => bi (bif q27 then (bi (m_strings_Contains s [32, 32]) fun y36 => some (!y36)) else (some false)) fun q33 => some q33

def m_laneref1_in (n : Int) (low : Int) (high : Int) : Option Bool :=
  some ((decide ((low : Int) ≤ n)) && (decide ((n : Int) ≤ high)))

def m_laneref1_RecordFault (v_r : T_api_Record) : Option Int :=
  bi (bif decide (((v_r.Name.length : Int) : Int) > 253) then (some true) else (bi (m_strings_TrimPrefix v_r.Name [42, 46]) fun y5 => bi (m_laneref1_DomainFault y5) fun y7 => some ((y7 : Int) != 0))) fun q1 => bif q1 then (some 5) else (bi m_laneref1_Kinds fun y11 => bi (m_slices_Contains_int_int y11 v_r.Kind) fun y13 => bif !y13 then (some 4) else (bi (bif (v_r.Kind : Int) == 1 then (some true) else (some ((v_r.Kind : Int) == 28))) fun q17 => bi (bif q17 then (bi (m_laneref2_AddrFault v_r.Addr) fun y24 => some (((y24 : Int) != 0) || (!((v_r.Addr.Six : Bool) == ((v_r.Kind : Int) == 28))))) else (some false)) fun q21 => bif (q21 || ((!q17) && (!(((v_r.Addr.Six : Bool) == false) && (((v_r.Addr.Hi : Int) == 0) && (((v_r.Addr.Lo : Int) == 0) && true)))))) then (some 3) else (bi (bif (((v_r.Kind : Int) == 5) || ((v_r.Kind : Int) == 12)) then (bi (m_laneref1_DomainFault v_r.To) fun y33 => bif (y33 : Int) != 0 then (bi (some 5) fun v => some (.inr v)) else (some (.inl ()))) else (bif !((v_r.To : Str) == []) then (bi (some 3) fun v => some (.inr v)) else (some (.inl ()))) : Option (Unit ⊕ Int)) fun q => orI q fun a31 => bi (bif (((v_r.Kind : Int) != 16) && (!((v_r.Words : Str) == []))) then (some true) else (bi (m_laneref1_plain v_r.Words) fun y48 => some (!y48))) fun q44 => bif (q44 || (decide (((v_r.Words.length : Int) : Int) > 200))) then (some 3) else (bi (m_laneref1_in v_r.Life 0 1000000) fun y52 => bif !y52 then (some 1) else (some 0)))))

def m_laneref1_bare (s : Str) : Option Str :=
  bi (m_strings_TrimPrefix s [42, 46]) fun y1 => some y1

def m_laneref1_IsUnder (name : Str) (zone : Str) : Option Bool :=
  bi (bif (name : Str) == zone then (some true) else (bi (catZ [46] zone) fun y5 => bi (m_strings_HasSuffix name y5) fun y7 => some y7)) fun q1 => some q1

def m_cmp_isNaN_uint64 (x : Int) : Option Bool :=
  some ((x : Int) != x)

def m_cmp_Compare_uint64 (x : Int) (y : Int) : Option Int :=
  bi (m_cmp_isNaN_uint64 x) fun y1 => bi (m_cmp_isNaN_uint64 y) fun y3 => bif y1 then (bif y3 then (some 0) else (some (-1))) else (bif y3 then (some 1) else (bif decide ((x : Int) < y) then (some (-1)) else (bif decide ((x : Int) > y) then (some 1) else (some 0))))

def m_cmp_Or_int (vals : List Int) : Option Int :=
  bi (rangeM (σ := Unit) (ρ := Int) (fun i1 x3 s2 => bif (x3 : Int) != 0 then (bi (some x3) fun v => some (.out v)) else (some (.go ()))) 0 vals ()) fun q => goI q fun a6 => some 0

def m_laneref1_recordOrder (a : T_api_Record) (b : T_api_Record) : Option Int :=
  bi (m_strings_Compare a.Name b.Name) fun y1 => bi (m_cmp_Compare_int a.Kind b.Kind) fun y3 => bi (m_cmp_Compare_uint64 a.Addr.Hi b.Addr.Hi) fun y5 => bi (m_cmp_Compare_uint64 a.Addr.Lo b.Addr.Lo) fun y7 => bi (m_strings_Compare a.To b.To) fun y9 => bi (m_strings_Compare a.Words b.Words) fun y11 => bi (m_cmp_Or_int [y1, y3, y5, y7, y9, y11]) fun y13 => some y13

def m_laneref1_ZoneFault (z : T_api_Zone) : Option Int :=
  bi (m_laneref1_DomainFault z.Root) fun y1 => bif (y1 : Int) != 0 then (some y1) else (bif decide (((z.Records.length : Int) : Int) > 2000) then (some 2) else (bi (rangeM (σ := Unit) (ρ := Int) (fun i7 x9 s8 => bi (m_laneref1_RecordFault x9) fun y18 => bif (y18 : Int) != 0 then (bi (some y18) fun v => some (.out v)) else (bi (m_laneref1_bare x9.Name) fun y24 => bi (m_laneref1_IsUnder y24 z.Root) fun y26 => bif !y26 then (bi (some 16) fun v => some (.out v)) else (bif ((i7 : Int) : Int) == 0 then (some (.go ())) else (bi (getZ z.Records (wi ((i7 : Int) - 1))) fun x34 => bi (m_laneref1_recordOrder x34 x9) fun y36 => bif (y36 : Int) == 0 then (bi (some 6) fun v => some (.out v)) else (bif decide ((y36 : Int) > 0) then (bi (some 7) fun v => some (.out v)) else (bif (((x34.Name : Str) == x9.Name) && (((x9.Kind : Int) == 5) || ((x34.Kind : Int) == 5))) then (bi (some 13) fun v => some (.out v)) else (some (.go ())))))))) 0 z.Records ()) fun q => goI q fun a12 => some 0))

def m_lanemake_Stream_RightZone (k : Nat) (s : T_lanemake_Stream) : Option (T_api_Zone × T_lanemake_Stream) :=
  bi (loopM (σ := T_lanemake_Stream × Int) (ρ := T_lanemake_Stream ⊕ (T_api_Zone × T_lanemake_Stream)) (fun s2 => bif decide ((s2.2 : Int) < 6) then (bi (m_lanemake_Stream_Zone k s2.1) fun y12 => bi (m_laneref1_ZoneFault y12.1) fun y14 => bif (y14 : Int) == 0 then (bi (some (y12.1, y12.2)) fun v => some (.out (.inr v))) else (some (.go (y12.2, wi (s2.2 + 1))))) else (some (.out (.inl s2.1)))) k (s, 0)) fun q => orI q fun a6 => some ((⟨[110, 101, 116, 46, 120], []⟩ : T_api_Zone), a6)

def m_lanemake_Stream_Net (k : Nat) (s : T_lanemake_Stream) : Option (T_api_Net × T_lanemake_Stream) :=
  bi (m_lanemake_Stream_Search s) fun y1 => bi (m_lanemake_Stream_Pick y1.2 [0, 1, 1, 2, 15]) fun y3 => bi (m_lanemake_Stream_Splits y3.2) fun y5 => bi (m_lanemake_Stream_RightZone k y5.2) fun y7 => bi (m_lanemake_at 9) fun y9 => bi (m_lanemake_Stream_Flip y7.2 20) fun y11 => bi (bif y11.1 then (bi (m_lanemake_Stream_Next y11.2 4) fun y16 => bif (y16.1 : Int) == 0 then (bi (m_lanemake_Stream_Odd y16.2 0 15) fun y19 => some (y19.2, y19.1, [(⟨[105, 110], [y7.1]⟩ : T_api_Source), (⟨[111, 117, 116], [(⟨[108, 97, 98, 46, 110, 101, 116, 46, 120], [(⟨[42, 46, 108, 97, 98, 46, 110, 101, 116, 46, 120], 1, y9, [], [], 5⟩ : T_api_Record)]⟩ : T_api_Zone), (⟨[111, 116, 104, 101, 114], []⟩ : T_api_Zone)]⟩ : T_api_Source)])) else (bif (y16.1 : Int) == 1 then (bi (getZ [(⟨[105, 110], [y7.1]⟩ : T_api_Source), (⟨[111, 117, 116], [(⟨[108, 97, 98, 46, 110, 101, 116, 46, 120], [(⟨[42, 46, 108, 97, 98, 46, 110, 101, 116, 46, 120], 1, y9, [], [], 5⟩ : T_api_Record)]⟩ : T_api_Zone), (⟨[111, 116, 104, 101, 114], []⟩ : T_api_Zone)]⟩ : T_api_Source)] 0) fun x23 => bi (m_lanemake_Stream_Zone k y16.2) fun y26 => bi (apd x23.Zones [y26.1]) fun y28 => bi (getZ [(⟨[105, 110], [y7.1]⟩ : T_api_Source), (⟨[111, 117, 116], [(⟨[108, 97, 98, 46, 110, 101, 116, 46, 120], [(⟨[42, 46, 108, 97, 98, 46, 110, 101, 116, 46, 120], 1, y9, [], [], 5⟩ : T_api_Record)]⟩ : T_api_Zone), (⟨[111, 116, 104, 101, 114], []⟩ : T_api_Zone)]⟩ : T_api_Source)] 0) fun x30 => some (y26.2, y3.1, [(⟨[105, 110], [y7.1]⟩ : T_api_Source), (⟨[111, 117, 116], [(⟨[108, 97, 98, 46, 110, 101, 116, 46, 120], [(⟨[42, 46, 108, 97, 98, 46, 110, 101, 116, 46, 120], 1, y9, [], [], 5⟩ : T_api_Record)]⟩ : T_api_Zone), (⟨[111, 116, 104, 101, 114], []⟩ : T_api_Zone)]⟩ : T_api_Source)].set ((0 : Int).toNat) (⟨x30.Server, y28⟩ : T_api_Source))) else (bif (y16.1 : Int) == 2 then (bi (m_lanemake_Stream_Some y16.2 [[], [105, 110]]) fun y35 => bi (getZ [(⟨[105, 110], [y7.1]⟩ : T_api_Source), (⟨[111, 117, 116], [(⟨[108, 97, 98, 46, 110, 101, 116, 46, 120], [(⟨[42, 46, 108, 97, 98, 46, 110, 101, 116, 46, 120], 1, y9, [], [], 5⟩ : T_api_Record)]⟩ : T_api_Zone), (⟨[111, 116, 104, 101, 114], []⟩ : T_api_Zone)]⟩ : T_api_Source)] 1) fun x37 => some (y35.2, y3.1, [(⟨[105, 110], [y7.1]⟩ : T_api_Source), (⟨[111, 117, 116], [(⟨[108, 97, 98, 46, 110, 101, 116, 46, 120], [(⟨[42, 46, 108, 97, 98, 46, 110, 101, 116, 46, 120], 1, y9, [], [], 5⟩ : T_api_Record)]⟩ : T_api_Zone), (⟨[111, 116, 104, 101, 114], []⟩ : T_api_Zone)]⟩ : T_api_Source)].set ((1 : Int).toNat) (⟨y35.1, x37.Zones⟩ : T_api_Source))) else (some (y16.2, y3.1, []))))) else (some (y11.2, y3.1, [(⟨[105, 110], [y7.1]⟩ : T_api_Source), (⟨[111, 117, 116], [(⟨[108, 97, 98, 46, 110, 101, 116, 46, 120], [(⟨[42, 46, 108, 97, 98, 46, 110, 101, 116, 46, 120], 1, y9, [], [], 5⟩ : T_api_Record)]⟩ : T_api_Zone), (⟨[111, 116, 104, 101, 114], []⟩ : T_api_Zone)]⟩ : T_api_Source)]))) fun q13 => some ((⟨y1.1, q13.2.1, y5.1, q13.2.2⟩ : T_api_Net), q13.1)

def m_lanemake_Stream_RecordKind (s : T_lanemake_Stream) : Option (Int × T_lanemake_Stream) :=
  bi (m_lanemake_Stream_Pick s [1, 1, 1, 28, 5, 16, 12, 0]) fun y1 => some (y1.1, y1.2)

def m_name_isLetter (c : Int) : Option Bool :=
  some (((decide ((c : Int) ≥ 97)) && (decide ((c : Int) ≤ 122))) || ((decide ((c : Int) ≥ 48)) && (decide ((c : Int) ≤ 57))))

def m_name_isLabel : Nat → Str → Option Bool
  | 0, _ => none
  | k + 1, s => bi (m_strings_CutPrefix s [95]) fun y1 => bif y1.2 then (bi (m_strings_HasPrefix y1.1 [95]) fun y4 => bi (bif !y4 then (bi (m_name_isLabel k y1.1) fun y9 => some y9) else (some false)) fun q6 => some (q6 && (decide (((s.length : Int) : Int) ≤ 63)))) else (bi (gd (decide ((s.length : Int) ≤ 9223372036854775807)) (rangeI (σ := Unit) (ρ := Bool) (fun i13 s14 => bi (getZ s (i13 : Int)) fun c25 => bi (m_name_isLetter (c25.toNat : Int)) fun y27 => bi (bif !y27 then (bi (getZ s (i13 : Int)) fun c32 => some (((c32.toNat : Int) : Int) != 45)) else (some false)) fun q29 => bif q29 then (bi (some false) fun v => some (.out v)) else (some (.go ()))) (s.length : Int) ())) fun q => goI q fun a18 => bi (bif ((!((s : Str) == [])) && (decide (((s.length : Int) : Int) ≤ 63))) then (bi (getZ s 0) fun c42 => some (((c42.toNat : Int) : Int) != 45)) else (some false)) fun q39 => bi (bif q39 then (bi (getZ s (wi ((s.length : Int) - 1))) fun c48 => some (((c48.toNat : Int) : Int) != 45)) else (some false)) fun q45 => some q45)

def m_name_CheckDomain (k : Nat) (s : Str) : Option Int :=
  bif decide (((s.length : Int) : Int) > 253) then (some 2) else (bi (m_strings_Split s [46]) fun y3 => bi (rangeM (σ := Unit) (ρ := Int) (fun i5 x7 s6 => bi (m_name_isLabel k x7) fun y16 => bif !y16 then (bi (some 5) fun v => some (.out v)) else (some (.go ()))) 0 y3 ()) fun q => goI q fun a10 => some 0)

def m_name_checkDomains (k : Nat) (l : List Str) : Option Int :=
  bi (rangeM (σ := Unit) (ρ := Int) (fun i1 x3 s2 => bi (m_name_CheckDomain k x3) fun y12 => bif (y12 : Int) != 0 then (bi (some y12) fun v => some (.out v)) else (some (.go ()))) 0 l ()) fun q => goI q fun a6 => some 0

def m_kit_Outside (n : Int) (low : Int) (high : Int) : Option Bool :=
  some ((decide ((n : Int) < low)) || (decide ((n : Int) > high)))

def m_name_searchFault (k : Nat) (search : List Str) (dots : Int) : Option Int :=
  bif decide (((search.length : Int) : Int) > 10) then (some 2) else (bi (m_name_checkDomains k search) fun y3 => bif (y3 : Int) != 0 then (some y3) else (bi (m_kit_Outside dots 0 15) fun y7 => bif y7 then (some 1) else (some 0)))

def m_kit_IsKey (k : Nat) (s : Str) : Option Bool :=
  bi (loopM (σ := Int) (ρ := Unit ⊕ Bool) (fun s2 => bif decide ((s2 : Int) < (s.length : Int)) then (bi (getZ s s2) fun c12 => bif !(((decide (((c12.toNat : Int) : Int) ≥ 97)) && (decide (((c12.toNat : Int) : Int) ≤ 122))) || ((decide ((s2 : Int) > 0)) && ((((decide (((c12.toNat : Int) : Int) ≥ 48)) && (decide (((c12.toNat : Int) : Int) ≤ 57))) || (((c12.toNat : Int) : Int) == 45)) || (((c12.toNat : Int) : Int) == 95)))) then (bi (some false) fun v => some (.out (.inr v))) else (some (.go (wi (s2 + 1))))) else (some (.out (.inl ())))) k 0) fun q => orI q fun a6 => some ((!((s : Str) == [])) && (decide (((s.length : Int) : Int) ≤ 40)))

def m_slices_Index_string_string (s : List Str) (v : Str) : Option Int :=
  bi (rangeM (σ := Unit) (ρ := Int) (fun i1 x3 s2 => bif (v : Str) == x3 then (bi (some (i1 : Int)) fun v => some (.out v)) else (some (.go ()))) 0 s ()) fun q => goI q fun a6 => some (-1)

def m_slices_Contains_string_string (s : List Str) (v : Str) : Option Bool :=
  bi (m_slices_Index_string_string s v) fun y1 => some (decide ((y1 : Int) ≥ 0))

def m_name_CheckSplits (k : Nat) (l : List T_api_Split) : Option Int :=
  bif decide (((l.length : Int) : Int) > 50) then (some 2) else (bi (rangeM (σ := Unit) (ρ := Int) (fun i3 x5 s4 => bi (bif !((x5.Suffix : Str) == []) then (bi (m_name_CheckDomain k x5.Suffix) fun y18 => bif (y18 : Int) != 0 then (bi (bi (some y18) fun v => some (.out v)) fun v => some (.inr v)) else (some (.inl ()))) else (some (.inl ())) : Option (Unit ⊕ (LS Unit Int))) fun q => orI q fun a16 => bi (bif decide (((i3 : Int) : Int) > 0) then (bi (getZ l (wi ((i3 : Int) - 1))) fun x30 => some (Op.bytesLess x5.Suffix x30.Suffix || (x5.Suffix : Str) == x30.Suffix)) else (some false)) fun q27 => bif q27 then (bi (some 7) fun v => some (.out v)) else (bif ((x5.Servers.length : Int) : Int) == 0 then (bi (some 8) fun v => some (.out v)) else (bif decide (((x5.Servers.length : Int) : Int) > 10) then (bi (some 2) fun v => some (.out v)) else (bi (rangeM (σ := Unit) (ρ := LS Unit Int) (fun i45 x47 s46 => bi (m_kit_IsKey k x47) fun y56 => bif !y56 then (bi (bi (some 5) fun v => some (.out v)) fun v => some (.out v)) else (bi (subZ x5.Servers 0 (i45 : Int)) fun z64 => bi (m_slices_Contains_string_string z64 x47) fun y66 => bif y66 then (bi (bi (some 6) fun v => some (.out v)) fun v => some (.out v)) else (some (.go ())))) 0 x5.Servers ()) fun q => goI q fun a50 => some (.go ()))))) 0 l ()) fun q => goI q fun a8 => some 0)

def m_name_bare (name : Str) : Option Str :=
  bi (m_strings_TrimPrefix name [42, 46]) fun y1 => some y1

def m_name_isKind (kind : Int) : Option Bool :=
  bi (bif (kind : Int) == 1 then (some ((kind : Int) == 1)) else (bif (kind : Int) == 5 then (some ((kind : Int) == 5)) else (bif (kind : Int) == 12 then (some ((kind : Int) == 12)) else (bif (kind : Int) == 16 then (some ((kind : Int) == 16)) else (some ((kind : Int) == 28)))))) fun q1 => bif q1 then (some true) else (some false)

def m_name_hasAddr (kind : Int) : Option Bool :=
  some (((kind : Int) == 1) || ((kind : Int) == 28))

def m_addr_CheckAddr (a : T_api_Addr) : Option Int :=
  bif ((!a.Six) && (((a.Hi : Int) != 0) || (decide ((a.Lo : Int) ≥ 4294967296)))) then (some 3) else (some 0)

def m_name_hasName (kind : Int) : Option Bool :=
  some (((kind : Int) == 5) || ((kind : Int) == 12))

def m_kit_IsPlain (k : Nat) (s : Str) : Option Bool :=
  bi (loopM (σ := Int) (ρ := Unit ⊕ Bool) (fun s2 => bif decide ((s2 : Int) < (s.length : Int)) then (bi (getZ s s2) fun c12 => bi (bif decide (((c12.toNat : Int) : Int) < 32) then (some true) else (bi (getZ s s2) fun c18 => some (((c18.toNat : Int) : Int) == 127))) fun q14 => bif q14 then (bi (some false) fun v => some (.out (.inr v))) else (some (.go (wi (s2 + 1))))) else (some (.out (.inl ())))) k 0) fun q => orI q fun a6 => bi (m_utf8_ValidString s) fun y25 => bi (bif y25 then (bi (m_strings_Trim s [32]) fun y30 => some ((y30 : Str) == s)) else (some false)) fun q27 => bi (bif q27 then (bi (m_strings_Contains s [32, 32]) fun y36 => some (!y36)) else (some false)) fun q33 => some q33

def m_name_recordFault (k : Nat) (v_r : T_api_Record) : Option Int :=
  bi (m_name_bare v_r.Name) fun y1 => bi (m_name_CheckDomain k y1) fun y3 => bif (((y3 : Int) != 0) || (decide (((v_r.Name.length : Int) : Int) > 253))) then (some 5) else (bi (m_name_isKind v_r.Kind) fun y7 => bif !y7 then (some 4) else (bi (m_name_hasAddr v_r.Kind) fun y11 => bi (bif y11 then (bi (bif !((v_r.Addr.Six : Bool) == ((v_r.Kind : Int) == 28)) then (some true) else (bi (m_addr_CheckAddr v_r.Addr) fun y20 => some ((y20 : Int) != 0))) fun q16 => some q16) else (some false)) fun q13 => bif q13 then (some 3) else (bi (m_name_hasAddr v_r.Kind) fun y25 => bif ((!y25) && (!(((v_r.Addr.Six : Bool) == false) && (((v_r.Addr.Hi : Int) == 0) && (((v_r.Addr.Lo : Int) == 0) && true))))) then (some 3) else (bi (m_name_hasName v_r.Kind) fun y29 => bi (bif y29 then (bi (m_name_CheckDomain k v_r.To) fun y34 => some ((y34 : Int) != 0)) else (some false)) fun q31 => bif q31 then (some 5) else (bi (m_name_hasName v_r.Kind) fun y39 => bif ((!y39) && (!((v_r.To : Str) == []))) then (some 3) else (bi (bif (v_r.Kind : Int) == 16 then (bi (m_kit_IsPlain k v_r.Words) fun y46 => some ((!y46) || (decide (((v_r.Words.length : Int) : Int) > 200)))) else (some false)) fun q43 => bif (q43 || (((v_r.Kind : Int) != 16) && (!((v_r.Words : Str) == [])))) then (some 3) else (bi (m_kit_Outside v_r.Life 0 1000000) fun y51 => bif y51 then (some 1) else (some 0))))))))

def m_name_under (name : Str) (zone : Str) : Option Bool :=
  bi (bif (name : Str) == zone then (some true) else (bi (catZ [46] zone) fun y5 => bi (m_strings_HasSuffix name y5) fun y7 => some y7)) fun q1 => some q1

def m_name_compareRecords (a : T_api_Record) (b : T_api_Record) : Option Int :=
  bi (m_strings_Compare a.Name b.Name) fun y1 => bi (m_cmp_Compare_int a.Kind b.Kind) fun y3 => bi (m_cmp_Compare_uint64 a.Addr.Hi b.Addr.Hi) fun y5 => bi (m_cmp_Compare_uint64 a.Addr.Lo b.Addr.Lo) fun y7 => bi (m_strings_Compare a.To b.To) fun y9 => bi (m_strings_Compare a.Words b.Words) fun y11 => bi (m_cmp_Or_int [y1, y3, y5, y7, y9, y11]) fun y13 => some y13

def m_name_CheckZone (k : Nat) (z : T_api_Zone) : Option Int :=
  bi (m_name_CheckDomain k z.Root) fun y1 => bif (y1 : Int) != 0 then (some y1) else (bif decide (((z.Records.length : Int) : Int) > 2000) then (some 2) else (bi (rangeM (σ := Unit) (ρ := Int) (fun i7 x9 s8 => bi (m_name_recordFault k x9) fun y18 => bif (y18 : Int) != 0 then (bi (some y18) fun v => some (.out v)) else (bi (m_name_bare x9.Name) fun y24 => bi (m_name_under y24 z.Root) fun y26 => bif !y26 then (bi (some 16) fun v => some (.out v)) else (bif ((i7 : Int) : Int) == 0 then (some (.go ())) else (bi (getZ z.Records (wi ((i7 : Int) - 1))) fun x34 => bi (m_name_compareRecords x34 x9) fun y36 => bif (y36 : Int) == 0 then (bi (some 6) fun v => some (.out v)) else (bif decide ((y36 : Int) > 0) then (bi (some 7) fun v => some (.out v)) else (bif (((x34.Name : Str) == x9.Name) && (((x34.Kind : Int) == 5) || ((x9.Kind : Int) == 5))) then (bi (some 13) fun v => some (.out v)) else (some (.go ())))))))) 0 z.Records ()) fun q => goI q fun a12 => some 0))

def m_name_CheckNet (k : Nat) (n : T_api_Net) : Option Int :=
  bi (m_name_searchFault k n.Search n.Dots) fun y1 => bif (y1 : Int) != 0 then (some y1) else (bi (m_name_CheckSplits k n.Splits) fun y5 => bif (y5 : Int) != 0 then (some y5) else (bif decide (((n.Sources.length : Int) : Int) > 10) then (some 2) else (bi (rangeM (σ := Unit) (ρ := Int) (fun i11 x13 s12 => bi (m_kit_IsKey k x13.Server) fun y22 => bif !y22 then (bi (some 5) fun v => some (.out v)) else (bi (bif decide (((i11 : Int) : Int) > 0) then (bi (getZ n.Sources (wi ((i11 : Int) - 1))) fun x31 => some (Op.bytesLess x13.Server x31.Server || (x13.Server : Str) == x31.Server)) else (some false)) fun q28 => bif q28 then (bi (some 7) fun v => some (.out v)) else (bif decide (((x13.Zones.length : Int) : Int) > 20) then (bi (some 2) fun v => some (.out v)) else (bi (rangeM (σ := Unit) (ρ := LS Unit Int) (fun i42 x44 s43 => bi (m_name_CheckZone k x44) fun y53 => bif (y53 : Int) != 0 then (bi (bi (some y53) fun v => some (.out v)) fun v => some (.out v)) else (bi (bif decide (((i42 : Int) : Int) > 0) then (bi (getZ x13.Zones (wi ((i42 : Int) - 1))) fun x64 => some (Op.bytesLess x44.Root x64.Root || (x44.Root : Str) == x64.Root)) else (some false)) fun q61 => bif q61 then (bi (bi (some 7) fun v => some (.out v)) fun v => some (.out v)) else (some (.go ())))) 0 x13.Zones ()) fun q => goI q fun a47 => some (.go ()))))) 0 n.Sources ()) fun q => goI q fun a16 => some 0)))

def m_name_names (search : List Str) (dots : Int) (name : Str) : Option (List Str) :=
  bi (rangeF (σ := List Str) (fun i1 x3 s2 => bi (catZ name [46]) fun y12 => bi (catZ y12 x3) fun y14 => bi (apd s2 [y14]) fun y16 => some y16) 0 search ([] : List Str)) fun q4 => bi (m_strings_Count name [46]) fun y18 => bi (bif decide ((y18 : Int) < dots) then (bi (apd q4 [name]) fun y23 => some y23) else (bi (apd [name] q4) fun y26 => some y26)) fun q20 => bi (gd (decide ((q20.length : Int) ≤ 9223372036854775807)) (rangeG (σ := List Str) (fun i28 s29 => bi (getZ q20 (i28 : Int)) fun x40 => bi (bif decide (((x40.length : Int) : Int) ≤ 253) then (bi (m_slices_Contains_string_string s29 x40) fun y46 => some (!y46)) else (some false)) fun q43 => bif q43 then (bi (apd s29 [x40]) fun y50 => some y50) else (some s29)) (q20.length : Int) ([] : List Str))) fun q31 => some q31

def m_name_servers (l : List T_api_Split) (name : Str) : Option ((List Str) × Bool) :=
  bi (rangeF (σ := Int) (fun i1 x3 s2 => bi (bif (x3.Suffix : Str) == [] then (bif decide ((s2 : Int) < 0) then (some true) else (bi (getZ l s2) fun x17 => some (decide (((x3.Suffix.length : Int) : Int) > (x17.Suffix.length : Int))))) else (bi (m_name_under name x3.Suffix) fun y20 => bif y20 then (bif decide ((s2 : Int) < 0) then (some true) else (bi (getZ l s2) fun x25 => some (decide (((x3.Suffix.length : Int) : Int) > (x25.Suffix.length : Int))))) else (some false))) fun q12 => bif q12 then (some (i1 : Int)) else (some s2)) 0 l (-1)) fun q4 => bif decide ((q4 : Int) < 0) then (some ([], false)) else (bi (getZ l q4) fun x32 => bi (m_slices_Clone_string_string x32.Servers) fun y34 => some (y34, true))

def m_name_zoneOf (n : T_api_Net) (server : Str) (name : Str) : Option (T_api_Zone × Bool) :=
  bi (rangeF (σ := T_api_Zone × Bool) (fun i1 x3 s2 => bi (rangeF (σ := T_api_Zone × Bool) (fun i12 x14 s13 => bi (bif (x3.Server : Str) == server then (bi (m_name_under name x14.Root) fun y26 => some y26) else (some false)) fun q23 => bif (q23 && (decide (((x14.Root.length : Int) : Int) > (s13.1.Root.length : Int)))) then (some (x14, true)) else (some (s13.1, s13.2))) 0 x3.Zones (s2.1, s2.2)) fun q15 => some (q15.1, q15.2)) 0 n.Sources ((⟨[], []⟩ : T_api_Zone), false)) fun q4 => some (q4.1, q4.2)

def m_name_there_1 (v_r : T_api_Record) (x : Str) : Option Bool :=
  bi (m_name_bare v_r.Name) fun y1 => bi (m_name_under y1 x) fun y3 => some y3

def m_slices_IndexFunc_api_Record_api_Record (s : List T_api_Record) (f : Str) : Option Int :=
  bi (rangeM (σ := Unit) (ρ := Int) (fun i1 x3 s2 => bi (m_name_there_1 x3 f) fun y12 => bif y12 then (bi (some (i1 : Int)) fun v => some (.out v)) else (some (.go ()))) 0 s ()) fun q => goI q fun a6 => some (-1)

def m_slices_ContainsFunc_api_Record_api_Record (s : List T_api_Record) (f : Str) : Option Bool :=
  bi (m_slices_IndexFunc_api_Record_api_Record s f) fun y1 => some (decide ((y1 : Int) ≥ 0))

def m_name_there (z : T_api_Zone) (name : Str) : Option Bool :=
  bi (m_slices_ContainsFunc_api_Record_api_Record z.Records name) fun y1 => some y1

def m_name_at (k : Nat) (z : T_api_Zone) (name : Str) : Option ((List T_api_Record) × Bool) :=
  bi (m_name_there z name) fun y1 => bi (bif !y1 then (bi (loopM (σ := Str) (ρ := Str) (fun s8 => bif !((s8 : Str) == z.Root) then (bi (m_strings_Cut s8 [46]) fun y18 => bi (m_name_there z y18.2.1) fun y20 => bif y20 then (some (.out y18.2.1)) else (some (.go y18.2.1))) else (some (.out s8))) k name) fun q10 => bif (name : Str) == z.Root then (bi (some ([], false)) fun v => some (.inr v)) else (bi (catZ [42, 46] q10) fun y29 => some (.inl y29))) else (some (.inl name)) : Option (Str ⊕ ((List T_api_Record) × Bool))) fun q => orI q fun a5 => bi (rangeF (σ := List T_api_Record) (fun i32 x34 s33 => bif (x34.Name : Str) == a5 then (bi (apd s33 [(⟨name, x34.Kind, x34.Addr, x34.To, x34.Words, x34.Life⟩ : T_api_Record)]) fun y44 => some y44) else (some s33)) 0 z.Records ([] : List T_api_Record)) fun q35 => some (q35, y1)

def m_slices_Clone_api_Record_api_Record (s : List T_api_Record) : Option (List T_api_Record) :=
  bi (apd ([] : List T_api_Record) s) fun y1 => some y1

def m_name_find_1 (v_r : T_api_Record) (x : Int) : Option Bool :=
  some ((v_r.Kind : Int) != x)

def m_slices_IndexFunc_api_Record_api_Record_2 (s : List T_api_Record) (f : Int) : Option Int :=
  bi (gd (decide ((s.length : Int) ≤ 9223372036854775807)) (rangeI (σ := Unit) (ρ := Int) (fun i1 s2 => bi (getZ s (i1 : Int)) fun x13 => bi (m_name_find_1 x13 f) fun y16 => bif y16 then (bi (some (i1 : Int)) fun v => some (.out v)) else (some (.go ()))) (s.length : Int) ())) fun q => goI q fun a6 => some (-1)

def m_slices_DeleteFunc_api_Record_api_Record (k : Nat) (s : List T_api_Record) (f : Int) : Option (List T_api_Record) :=
  bi (m_slices_IndexFunc_api_Record_api_Record_2 s f) fun y1 => bif (y1 : Int) == (-1) then (some s) else (bi (loopM (σ := (List T_api_Record) × Int × Int) (ρ := (List T_api_Record) × Int) (fun s6 => bif decide ((s6.2.2 : Int) < (s6.1.length : Int)) then (bi (getZ s6.1 s6.2.2) fun x16 => bi (m_name_find_1 x16 f) fun y19 => bif !y19 then (bi (getZ s6.1 s6.2.1) fun x22 => some (.go (s6.1.set s6.2.1.toNat x16, wi (s6.2.1 + 1), wi (s6.2.2 + 1)))) else (some (.go (s6.1, s6.2.1, wi (s6.2.2 + 1))))) else (some (.out (s6.1, s6.2.1)))) k (s, y1, wi (y1 + 1))) fun q8 => bi (subZ q8.1 q8.2 (q8.1.length : Int)) fun z27 => some (q8.1.take q8.2.toNat))

def m_name_find_2 (v_r : T_api_Record) : Option Bool :=
  some ((v_r.Kind : Int) == 5)

def m_slices_IndexFunc_api_Record_api_Record_3 (s : List T_api_Record) : Option Int :=
  bi (rangeM (σ := Unit) (ρ := Int) (fun i1 x3 s2 => bi (m_name_find_2 x3) fun y12 => bif y12 then (bi (some (i1 : Int)) fun v => some (.out v)) else (some (.go ()))) 0 s ()) fun q => goI q fun a6 => some (-1)

def m_name_find (k : Nat) (z : T_api_Zone) (name : Str) (kind : Int) : Option ((List T_api_Record) × Int) :=
  bi (loopM (σ := (List T_api_Record) × Str × Int) (ρ := (List T_api_Record) × Int) (fun s2 => bi (m_name_at k z s2.2.1) fun y11 => bif ((((s2.2.2 : Int) == 0) && (!y11.2)) && (((y11.1.length : Int) : Int) == 0)) then (bi (some ([], 8)) fun v => some (.out v)) else (bi (m_slices_Clone_api_Record_api_Record y11.1) fun y17 => bi (m_slices_DeleteFunc_api_Record_api_Record k y17 kind) fun y19 => bi (m_slices_IndexFunc_api_Record_api_Record_3 y11.1) fun y21 => bif ((decide (((y19.length : Int) : Int) > 0)) || (decide ((y21 : Int) < 0))) then (bi (apd s2.1 y19) fun y24 => bi (some (y24, 0)) fun v => some (.out v)) else (bif (s2.2.2 : Int) == 8 then (bi (some ([], 14)) fun v => some (.out v)) else (bi (getZ y11.1 y21) fun x33 => bi (apd s2.1 [x33]) fun y35 => bi (getZ y11.1 y21) fun x37 => bi (m_name_under x37.To z.Root) fun y39 => bif !y39 then (bi (some (y35, 0)) fun v => some (.out v)) else (some (.go (y35, x37.To, wi (s2.2.2 + 1)))))))) k (([] : List T_api_Record), name, 0)) fun v => some v

def m_name_known (k : Nat) (n : T_api_Net) (name : Str) (kind : Int) : Option (T_api_Answer × Bool) :=
  bi (m_name_servers n.Splits name) fun y1 => bi (rangeM (σ := Unit) (ρ := T_api_Answer × Bool) (fun i3 x5 s4 => bi (m_name_zoneOf n x5 name) fun y14 => bif y14.2 then (bi (m_name_find k y14.1 name kind) fun y17 => bi (some ((⟨name, x5, y17.1⟩ : T_api_Answer), (((y17.2 : Int) == 0) && (decide (((y17.1.length : Int) : Int) > 0))))) fun v => some (.out v)) else (some (.go ()))) 0 y1.1 ()) fun q => goI q fun a8 => some ((⟨[], [], []⟩ : T_api_Answer), false)

def m_name_Ask (k : Nat) (n : T_api_Net) (name : Str) (kind : Int) : Option (T_api_Answer × Int) :=
  bi (m_name_CheckNet k n) fun y1 => bif (y1 : Int) != 0 then (some ((⟨[], [], []⟩ : T_api_Answer), y1)) else (bi (m_name_CheckDomain k name) fun y5 => bif (y5 : Int) != 0 then (some ((⟨[], [], []⟩ : T_api_Answer), y5)) else (bi (m_name_isKind kind) fun y9 => bif !y9 then (some ((⟨[], [], []⟩ : T_api_Answer), 4)) else (bi (m_name_names n.Search n.Dots name) fun y13 => bi (rangeM (σ := Unit) (ρ := T_api_Answer × Int) (fun i15 x17 s16 => bi (m_name_known k n x17 kind) fun y26 => bif y26.2 then (bi (some (y26.1, 0)) fun v => some (.out v)) else (some (.go ()))) 0 y13 ()) fun q => goI q fun a20 => some ((⟨[], [], []⟩ : T_api_Answer), 8))))

def m_laneref1_SearchFault (search : List Str) (dots : Int) : Option Int :=
  bif decide (((search.length : Int) : Int) > 10) then (some 2) else (bi (rangeM (σ := Unit) (ρ := Int) (fun i3 x5 s4 => bi (m_laneref1_DomainFault x5) fun y14 => bif (y14 : Int) != 0 then (bi (some y14) fun v => some (.out v)) else (some (.go ()))) 0 search ()) fun q => goI q fun a8 => bi (m_laneref1_in dots 0 15) fun y20 => bif !y20 then (some 1) else (some 0))

def m_laneref2_in (n : Int) (low : Int) (high : Int) : Option Bool :=
  some ((decide ((low : Int) ≤ n)) && (decide ((n : Int) ≤ high)))

def m_laneref2_only (s : Str) (v_some : Str) : Option Bool :=
  bi (m_strings_Trim s v_some) fun y1 => some ((y1 : Str) == [])

def m_laneref2_Key (s : Str) : Option Bool :=
  bi (m_laneref2_in (s.length : Int) 1 40) fun y1 => bi (bif y1 then (bi (subZ s 0 1) fun z6 => bi (m_laneref2_only z6 [97, 98, 99, 100, 101, 102, 103, 104, 105, 106, 107, 108, 109, 110, 111, 112, 113, 114, 115, 116, 117, 118, 119, 120, 121, 122]) fun y8 => some y8) else (some false)) fun q3 => bi (bif q3 then (bi (m_laneref2_only s [97, 98, 99, 100, 101, 102, 103, 104, 105, 106, 107, 108, 109, 110, 111, 112, 113, 114, 115, 116, 117, 118, 119, 120, 121, 122, 48, 49, 50, 51, 52, 53, 54, 55, 56, 57, 45, 95]) fun y14 => some y14) else (some false)) fun q11 => some q11

def m_laneref1_SplitsFault_1 (x : Str) : Option Bool :=
  bi (m_laneref2_Key x) fun y1 => some (!y1)

def m_slices_IndexFunc_string_string (s : List Str) : Option Int :=
  bi (rangeM (σ := Unit) (ρ := Int) (fun i1 x3 s2 => bi (m_laneref1_SplitsFault_1 x3) fun y12 => bif y12 then (bi (some (i1 : Int)) fun v => some (.out v)) else (some (.go ()))) 0 s ()) fun q => goI q fun a6 => some (-1)

def m_slices_ContainsFunc_string_string (s : List Str) : Option Bool :=
  bi (m_slices_IndexFunc_string_string s) fun y1 => some (decide ((y1 : Int) ≥ 0))

def m_laneref1_SplitsFault (l : List T_api_Split) : Option Int :=
  bif decide (((l.length : Int) : Int) > 50) then (some 2) else (bi (rangeM (σ := Unit) (ρ := Int) (fun i3 x5 s4 => bi (bif !((x5.Suffix : Str) == []) then (bi (m_laneref1_DomainFault x5.Suffix) fun y18 => bif (y18 : Int) != 0 then (bi (bi (some y18) fun v => some (.out v)) fun v => some (.inr v)) else (some (.inl ()))) else (some (.inl ())) : Option (Unit ⊕ (LS Unit Int))) fun q => orI q fun a16 => bi (bif decide (((i3 : Int) : Int) > 0) then (bi (getZ l (wi ((i3 : Int) - 1))) fun x30 => some (Op.bytesLess x5.Suffix x30.Suffix || (x5.Suffix : Str) == x30.Suffix)) else (some false)) fun q27 => bif q27 then (bi (some 7) fun v => some (.out v)) else (bif ((x5.Servers.length : Int) : Int) == 0 then (bi (some 8) fun v => some (.out v)) else (bif decide (((x5.Servers.length : Int) : Int) > 10) then (bi (some 2) fun v => some (.out v)) else (bi (m_slices_ContainsFunc_string_string x5.Servers) fun y45 => bif y45 then (bi (some 5) fun v => some (.out v)) else (bi (rangeM (σ := Unit) (ρ := LS Unit Int) (fun i51 x53 s52 => bi (subZ x5.Servers 0 (i51 : Int)) fun z62 => bi (m_slices_Contains_string_string z62 x53) fun y64 => bif y64 then (bi (bi (some 6) fun v => some (.out v)) fun v => some (.out v)) else (some (.go ()))) 0 x5.Servers ()) fun q => goI q fun a56 => some (.go ())))))) 0 l ()) fun q => goI q fun a8 => some 0)

def m_cmp_Or_api_Errno (vals : List Int) : Option Int :=
  bi (rangeM (σ := Unit) (ρ := Int) (fun i1 x3 s2 => bif (x3 : Int) != 0 then (bi (some x3) fun v => some (.out v)) else (some (.go ()))) 0 vals ()) fun q => goI q fun a6 => some 0

def m_laneref1_NetFault (n : T_api_Net) : Option Int :=
  bi (m_laneref1_SearchFault n.Search n.Dots) fun y1 => bi (m_laneref1_SplitsFault n.Splits) fun y3 => bi (m_cmp_Or_api_Errno [y1, y3]) fun y5 => bif (y5 : Int) != 0 then (some y5) else (bif decide (((n.Sources.length : Int) : Int) > 10) then (some 2) else (bi (rangeM (σ := Unit) (ρ := Int) (fun i11 x13 s12 => bi (m_laneref2_Key x13.Server) fun y22 => bif !y22 then (bi (some 5) fun v => some (.out v)) else (bi (bif decide (((i11 : Int) : Int) > 0) then (bi (getZ n.Sources (wi ((i11 : Int) - 1))) fun x31 => some (Op.bytesLess x13.Server x31.Server || (x13.Server : Str) == x31.Server)) else (some false)) fun q28 => bif q28 then (bi (some 7) fun v => some (.out v)) else (bif decide (((x13.Zones.length : Int) : Int) > 20) then (bi (some 2) fun v => some (.out v)) else (bi (rangeM (σ := Unit) (ρ := LS Unit Int) (fun i42 x44 s43 => bi (m_laneref1_ZoneFault x44) fun y53 => bif (y53 : Int) != 0 then (bi (bi (some y53) fun v => some (.out v)) fun v => some (.out v)) else (bi (bif decide (((i42 : Int) : Int) > 0) then (bi (getZ x13.Zones (wi ((i42 : Int) - 1))) fun x64 => some (Op.bytesLess x44.Root x64.Root || (x44.Root : Str) == x64.Root)) else (some false)) fun q61 => bif q61 then (bi (bi (some 7) fun v => some (.out v)) fun v => some (.out v)) else (some (.go ())))) 0 x13.Zones ()) fun q => goI q fun a47 => some (.go ()))))) 0 n.Sources ()) fun q => goI q fun a16 => some 0))

def m_lanelaw1_when (is : Bool) (e : Int) : Option Int :=
  bif is then (some e) else (some 0)

def m_laneref1_NamesTried (search : List Str) (dots : Int) (name : Str) : Option (List Str) :=
  bi (rangeF (σ := List Str) (fun i1 x3 s2 => bi (catZ name [46]) fun y12 => bi (catZ y12 x3) fun y14 => bi (apd s2 [y14]) fun y16 => some y16) 0 search [name]) fun q4 => bi (m_strings_Count name [46]) fun y18 => bi (bif decide ((y18 : Int) < dots) then (bi (subZ q4 1 (q4.length : Int)) fun z23 => bi (apd z23 [name]) fun y25 => some y25) else (some q4)) fun q20 => bi (rangeF (σ := List Str) (fun i28 x30 s29 => bi (bif decide (((x30.length : Int) : Int) ≤ 253) then (bi (m_slices_Contains_string_string s29 x30) fun y42 => some (!y42)) else (some false)) fun q39 => bif q39 then (bi (apd s29 [x30]) fun y46 => some y46) else (some s29)) 0 q20 ([] : List Str)) fun q31 => some q31

def m_laneref1_ServersOf (k : Nat) (l : List T_api_Split) (name : Str) : Option ((List Str) × Bool) :=
  bi (loopM (σ := Str) (ρ := (List Str) × Bool) (fun s2 => bi (rangeM (σ := Unit) (ρ := LS Str ((List Str) × Bool)) (fun i11 x13 s12 => bif (x13.Suffix : Str) == s2 then (bi (m_slices_Clone_string_string x13.Servers) fun y23 => bi (bi (some (y23, true)) fun v => some (.out v)) fun v => some (.out v)) else (some (.go ()))) 0 l ()) fun q => goI q fun a16 => bif (s2 : Str) == [] then (bi (some ([], false)) fun v => some (.out v)) else (bi (m_strings_Cut s2 [46]) fun y34 => some (.go y34.2.1))) k name) fun v => some v

def m_laneref1_AskOf_1 (y : T_api_Source) (x : Str) : Option Bool :=
  some ((y.Server : Str) == x)

def m_slices_IndexFunc_api_Source_api_Source (s : List T_api_Source) (f : Str) : Option Int :=
  bi (rangeM (σ := Unit) (ρ := Int) (fun i1 x3 s2 => bi (m_laneref1_AskOf_1 x3 f) fun y12 => bif y12 then (bi (some (i1 : Int)) fun v => some (.out v)) else (some (.go ()))) 0 s ()) fun q => goI q fun a6 => some (-1)

def m_laneref1_there_1 (v_r : T_api_Record) (x : Str) : Option Bool :=
  bi (m_laneref1_bare v_r.Name) fun y1 => bi (m_laneref1_IsUnder y1 x) fun y3 => some y3

def m_slices_IndexFunc_api_Record_api_Record_4 (s : List T_api_Record) (f : Str) : Option Int :=
  bi (rangeM (σ := Unit) (ρ := Int) (fun i1 x3 s2 => bi (m_laneref1_there_1 x3 f) fun y12 => bif y12 then (bi (some (i1 : Int)) fun v => some (.out v)) else (some (.go ()))) 0 s ()) fun q => goI q fun a6 => some (-1)

def m_slices_ContainsFunc_api_Record_api_Record_2 (s : List T_api_Record) (f : Str) : Option Bool :=
  bi (m_slices_IndexFunc_api_Record_api_Record_4 s f) fun y1 => some (decide ((y1 : Int) ≥ 0))

def m_laneref1_there (z : T_api_Zone) (name : Str) : Option Bool :=
  bi (m_slices_ContainsFunc_api_Record_api_Record_2 z.Records name) fun y1 => some y1

def m_laneref1_recordsAt (k : Nat) (z : T_api_Zone) (name : Str) : Option (List T_api_Record) :=
  bi (m_laneref1_there z name) fun y1 => bi (bif !y1 then (bi (loopM (σ := Str) (ρ := Str) (fun s8 => bif !((s8 : Str) == z.Root) then (bi (m_strings_Cut s8 [46]) fun y18 => bi (m_laneref1_there z y18.2.1) fun y20 => bif y20 then (some (.out y18.2.1)) else (some (.go y18.2.1))) else (some (.out s8))) k name) fun q10 => bif (name : Str) == z.Root then (bi (some []) fun v => some (.inr v)) else (bi (catZ [42, 46] q10) fun y29 => some (.inl y29))) else (some (.inl name)) : Option (Str ⊕ (List T_api_Record))) fun q => orI q fun a5 => bi (rangeF (σ := List T_api_Record) (fun i32 x34 s33 => bif (x34.Name : Str) == a5 then (bi (apd s33 [(⟨name, x34.Kind, x34.Addr, x34.To, x34.Words, x34.Life⟩ : T_api_Record)]) fun y44 => some y44) else (some s33)) 0 z.Records ([] : List T_api_Record)) fun q35 => some q35

def m_laneref1_FindIn_1 (v_r : T_api_Record) (x : Int) : Option Bool :=
  some ((v_r.Kind : Int) != x)

def m_slices_IndexFunc_api_Record_api_Record_5 (s : List T_api_Record) (f : Int) : Option Int :=
  bi (gd (decide ((s.length : Int) ≤ 9223372036854775807)) (rangeI (σ := Unit) (ρ := Int) (fun i1 s2 => bi (getZ s (i1 : Int)) fun x13 => bi (m_laneref1_FindIn_1 x13 f) fun y16 => bif y16 then (bi (some (i1 : Int)) fun v => some (.out v)) else (some (.go ()))) (s.length : Int) ())) fun q => goI q fun a6 => some (-1)

def m_slices_DeleteFunc_api_Record_api_Record_2 (k : Nat) (s : List T_api_Record) (f : Int) : Option (List T_api_Record) :=
  bi (m_slices_IndexFunc_api_Record_api_Record_5 s f) fun y1 => bif (y1 : Int) == (-1) then (some s) else (bi (loopM (σ := (List T_api_Record) × Int × Int) (ρ := (List T_api_Record) × Int) (fun s6 => bif decide ((s6.2.2 : Int) < (s6.1.length : Int)) then (bi (getZ s6.1 s6.2.2) fun x16 => bi (m_laneref1_FindIn_1 x16 f) fun y19 => bif !y19 then (bi (getZ s6.1 s6.2.1) fun x22 => some (.go (s6.1.set s6.2.1.toNat x16, wi (s6.2.1 + 1), wi (s6.2.2 + 1)))) else (some (.go (s6.1, s6.2.1, wi (s6.2.2 + 1))))) else (some (.out (s6.1, s6.2.1)))) k (s, y1, wi (y1 + 1))) fun q8 => bi (subZ q8.1 q8.2 (q8.1.length : Int)) fun z27 => some (q8.1.take q8.2.toNat))

def m_laneref1_FindIn (k : Nat) (z : T_api_Zone) (name : Str) (kind : Int) : Option ((List T_api_Record) × Int) :=
  bi (m_laneref1_IsUnder name z.Root) fun y1 => bif !y1 then (some ([], 16)) else (bi (m_laneref1_there z name) fun y5 => bi (bif !y5 then (bi (m_laneref1_recordsAt k z name) fun y10 => some (((y10.length : Int) : Int) == 0)) else (some false)) fun q7 => bif q7 then (some ([], 8)) else (bi (loopM (σ := (List T_api_Record) × Str × Int) (ρ := (List T_api_Record) × Int) (fun s16 => bi (m_laneref1_recordsAt k z s16.2.1) fun y25 => bi (m_slices_Clone_api_Record_api_Record y25) fun y27 => bi (m_slices_DeleteFunc_api_Record_api_Record_2 k y27 kind) fun y29 => bi (bif ((decide (((y29.length : Int) : Int) > 0)) || (((y25.length : Int) : Int) == 0)) then (some true) else (bi (getZ y25 0) fun x35 => some ((x35.Kind : Int) != 5))) fun q31 => bif q31 then (bi (apd s16.1 y29) fun y38 => bi (some (y38, 0)) fun v => some (.out v)) else (bif (s16.2.2 : Int) == 8 then (bi (some ([], 14)) fun v => some (.out v)) else (bi (getZ y25 0) fun x47 => bi (apd s16.1 [x47]) fun y49 => bi (getZ y25 0) fun x51 => bi (m_laneref1_IsUnder x51.To z.Root) fun y53 => bif !y53 then (bi (some (y49, 0)) fun v => some (.out v)) else (some (.go (y49, x51.To, wi (s16.2.2 + 1))))))) k (([] : List T_api_Record), name, 0)) fun v => some v))

def m_laneref1_AskOf (k : Nat) (n : T_api_Net) (name : Str) (kind : Int) : Option (T_api_Answer × Bool) :=
  bi (m_laneref1_NamesTried n.Search n.Dots name) fun y1 => bi (rangeM (σ := Unit) (ρ := T_api_Answer × Bool) (fun i3 x5 s4 => bi (m_laneref1_ServersOf k n.Splits x5) fun y14 => bi (rangeM (σ := Unit) (ρ := Unit ⊕ (LS Unit (T_api_Answer × Bool))) (fun i16 x18 s17 => bi (m_slices_IndexFunc_api_Source_api_Source n.Sources x18) fun y29 => bif decide ((y29 : Int) < 0) then (some (.go ())) else (bi (getZ n.Sources y29) fun x33 => bi (rangeF (σ := T_api_Zone) (fun i35 x37 s36 => bi (m_laneref1_IsUnder x5 x37.Root) fun y46 => bif (y46 && (decide (((x37.Root.length : Int) : Int) > (s36.Root.length : Int)))) then (some x37) else (some s36)) 0 x33.Zones (⟨[], []⟩ : T_api_Zone)) fun q38 => bif (q38.Root : Str) == [] then (some (.go ())) else (bi (m_laneref1_FindIn k q38 x5 kind) fun y52 => bif (((y52.2 : Int) == 0) && (decide (((y52.1.length : Int) : Int) > 0))) then (bi (bi (some ((⟨x5, x18, y52.1⟩ : T_api_Answer), true)) fun v => some (.out v)) fun v => some (.out (.inr v))) else (some (.out (.inl ())))))) 0 y14.1 ()) fun q => bi (lsN q fun s17 => .inl ()) fun q => orI q fun a21 => some (.go ())) 0 y1 ()) fun q => goI q fun a8 => some ((⟨[], [], []⟩ : T_api_Answer), false)

def m_slices_Equal_api_Record_api_Record (s1 : List T_api_Record) (s2 : List T_api_Record) : Option Bool :=
  bif ((s1.length : Int) : Int) != (s2.length : Int) then (some false) else (bi (rangeM (σ := Unit) (ρ := Bool) (fun i3 x5 s4 => bi (getZ s2 (i3 : Int)) fun x14 => bif !(((x5.Name : Str) == x14.Name) && (((x5.Kind : Int) == x14.Kind) && ((((x5.Addr.Six : Bool) == x14.Addr.Six) && (((x5.Addr.Hi : Int) == x14.Addr.Hi) && (((x5.Addr.Lo : Int) == x14.Addr.Lo) && true))) && (((x5.To : Str) == x14.To) && (((x5.Words : Str) == x14.Words) && (((x5.Life : Int) == x14.Life) && true)))))) then (bi (some false) fun v => some (.out v)) else (some (.go ()))) 0 s1 ()) fun q => goI q fun a8 => some true)

def m_name_Label (s : Str) : Option Str :=
  bi (gd (decide ((s.length : Int) ≤ 9223372036854775807)) (rangeG (σ := List Int) (fun i1 s2 => bi (getZ s (i1 : Int)) fun c13 => bi (bif ((decide (((c13.toNat : Int) : Int) ≥ 65)) && (decide (((c13.toNat : Int) : Int) ≤ 90))) then (some (IntKind.u8.wrap ((c13.toNat : Int) + 32))) else (some (c13.toNat : Int))) fun q15 => bi (m_name_isLetter q15) fun y19 => bif y19 then (bi (apd s2 [q15]) fun y22 => some y22) else (bi (bif ((s2.length : Int) : Int) == 0 then (some true) else (bi (getZ s2 (wi ((s2.length : Int) - 1))) fun x29 => some ((x29 : Int) != 45))) fun q25 => bif q25 then (bi (apd s2 [45]) fun y33 => some y33) else (some s2))) (s.length : Int) ([] : List Int))) fun q4 => bi (subZ q4 0 (if 63 < (q4.length : Int) then 63 else (q4.length : Int))) fun z36 => bi (strB z36) fun y38 => bi (m_strings_Trim y38 [45]) fun y40 => bif (y40 : Str) == [] then (some [110, 111, 100, 101]) else (some y40)

def m_lanelaw1_named (k : Nat) : Option Bool :=
  bi (m_name_Label [65, 32, 98]) fun y1 => bi (bif (y1 : Str) == [97, 45, 98] then (bi (m_name_CheckDomain k [97, 46, 46, 98]) fun y6 => some ((y6 : Int) == 5)) else (some false)) fun q3 => some q3

def m_lanelaw1_NamesAsked (k : Nat) (l : List Int) : Option Bool :=
  bi (m_lanemake_Stream_Net k (⟨l, 0⟩ : T_lanemake_Stream)) fun y1 => bi (m_lanemake_Stream_Domain y1.2) fun y3 => bi (m_lanemake_Stream_RecordKind y3.2) fun y5 => bi (m_name_Ask k y1.1 y3.1 y5.1) fun y7 => bi (m_laneref1_NetFault y1.1) fun y9 => bi (m_name_CheckNet k y1.1) fun y11 => bif (y11 : Int) != y9 then (some false) else (bi (m_laneref1_DomainFault y3.1) fun y15 => bi m_laneref1_Kinds fun y17 => bi (m_slices_Contains_int_int y17 y5.1) fun y19 => bi (m_lanelaw1_when (!y19) 4) fun y21 => bi (m_cmp_Or_api_Errno [y9, y15, y21]) fun y23 => bi (bif (y23 : Int) == 0 then (bi (m_laneref1_AskOf k y1.1 y3.1 y5.1) fun y28 => bi (m_lanelaw1_when (!y28.2) 8) fun y30 => some (y28.1, y30)) else (some ((⟨[], [], []⟩ : T_api_Answer), y23))) fun q25 => bi (bif ((((y7.2 : Int) == q25.2) && ((y7.1.Name : Str) == q25.1.Name)) && ((y7.1.Server : Str) == q25.1.Server)) then (bi (m_slices_Equal_api_Record_api_Record y7.1.Records q25.1.Records) fun y36 => some y36) else (some false)) fun q33 => bi (bif q33 then (bi (m_lanelaw1_named k) fun y42 => some y42) else (some false)) fun q39 => some q39)

end Go.Gk
