/-
  Models of functions.
-/
import Derived.Test.YtjhoahdlehkfaaaDoorMStr
set_option linter.unusedVariables false
namespace Go.Gk
structure T_lanemake_Stream where
  L : List Int
  v_at : Int
  deriving DecidableEq
structure T_api_Split where
  Suffix : Str
  Servers : List Str
  deriving DecidableEq

def m_lanemake_Below (x : Int) (n : Int) : Option Int :=
  bif decide ((n : Int) < 1) then (some 0) else (bi (remZ x n) fun y3 => bi (bif decide ((y3 : Int) < 0) then (some (wi (y3 + n))) else (some y3)) fun q5 => some q5)

def m_lanemake_Stream_Next (s : T_lanemake_Stream) (n : Int) : Option (Int × T_lanemake_Stream) :=
  bif ((s.L.length : Int) : Int) == 0 then (bi (m_lanemake_Below (wi ((wi (s.v_at + 1)) * 7919)) n) fun y2 => some (y2, (⟨s.L, wi (s.v_at + 1)⟩ : T_lanemake_Stream))) else (bi (remZ (wi ((wi (s.v_at + 1)) - 1)) (s.L.length : Int)) fun y5 => bi (divZ .i64 (wi ((wi (s.v_at + 1)) - 1)) (s.L.length : Int)) fun y7 => bi (getZ s.L y5) fun x9 => bi (m_lanemake_Below x9 1073741824) fun y11 => bi (m_lanemake_Below (wi (y11 + (wi (y7 * (wi (7919 + y5)))))) n) fun y13 => some (y13, (⟨s.L, wi (s.v_at + 1)⟩ : T_lanemake_Stream)))

def m_lanemake_Stream_Flip (s : T_lanemake_Stream) (n : Int) : Option (Bool × T_lanemake_Stream) :=
  bi (m_lanemake_Stream_Next s n) fun y1 => some ((y1.1 : Int) == 0, y1.2)

def m_lanemake_Stream_Some (s : T_lanemake_Stream) (l : List Str) : Option (Str × T_lanemake_Stream) :=
  bi (m_lanemake_Stream_Next s (l.length : Int)) fun y1 => bi (getZ l y1.1) fun x3 => some (x3, y1.2)

def m_lanemake_Stream_Domain (s : T_lanemake_Stream) : Option (Str × T_lanemake_Stream) :=
  bi (m_lanemake_Stream_Flip s 12) fun y1 => bif y1.1 then (bi (m_strings_Repeat [97] 64) fun y4 => bi (m_strings_Repeat [97, 98, 99, 46] 63) fun y6 => bi (catZ y6 [120]) fun y8 => bi (m_strings_Repeat [97, 98, 99, 46] 63) fun y10 => bi (catZ y10 [120, 121]) fun y12 => bi (m_lanemake_Stream_Some y1.2 [[], [46], [97, 46, 46, 98], [45, 97], [65, 46, 98], [97, 95, 98], [95, 120, 46, 121], y4, y8, y12, [97, 46]]) fun y14 => some (y14.1, y14.2)) else (bi (m_lanemake_Stream_Some y1.2 [[110, 101, 116, 46, 120], [97, 46, 110, 101, 116, 46, 120], [98, 46, 110, 101, 116, 46, 120], [99, 46, 110, 101, 116, 46, 120], [97, 46, 98, 46, 110, 101, 116, 46, 120], [108, 97, 98, 46, 110, 101, 116, 46, 120], [113, 46, 108, 97, 98, 46, 110, 101, 116, 46, 120], [120], [97, 110, 101, 116, 46, 120], [111, 116, 104, 101, 114], [97], [98]]) fun y17 => some (y17.1, y17.2))

def m_lanemake_Stream_Splits (s : T_lanemake_Stream) : Option ((List T_api_Split) × T_lanemake_Stream) :=
  bi (rangeF (σ := T_lanemake_Stream × (List T_api_Split)) (fun i1 x3 s2 => bi (m_lanemake_Stream_Flip s2.1 4) fun y12 => bif !y12.1 then (bi (m_lanemake_Stream_Next y12.2 4) fun y15 => bi (getZ [[[105, 110]], [[110, 111, 110, 101], [105, 110]], [[111, 117, 116], [105, 110]], [[111, 117, 116]]] y15.1) fun x17 => bi (apd s2.2 [(⟨x3, x17⟩ : T_api_Split)]) fun y19 => some (y15.2, y19)) else (some (y12.2, s2.2))) 0 [[], [97, 46, 110, 101, 116, 46, 120], [110, 101, 116, 46, 120], [111, 116, 104, 101, 114]] (s, ([] : List T_api_Split))) fun q4 => bi (m_lanemake_Stream_Flip q4.1 20) fun y22 => bi (bif y22.1 then (bi (m_lanemake_Stream_Domain y22.2) fun y27 => bi (m_lanemake_Stream_Next y27.2 4) fun y29 => bi (getZ [[], [[]], [[97], [97]], [[97]]] y29.1) fun x31 => bi (apd q4.2 [(⟨y27.1, x31⟩ : T_api_Split)]) fun y33 => some (y29.2, y33)) else (some (y22.2, q4.2))) fun q24 => some (q24.2, q24.1)

def m_slices_Clone_string_string (s : List Str) : Option (List Str) :=
  bi (apd ([] : List Str) s) fun y1 => some y1

def m_lanemake_Stream_Search (s : T_lanemake_Stream) : Option ((List Str) × T_lanemake_Stream) :=
  bi (m_lanemake_Stream_Next s 5) fun y1 => bi (getZ [[], [[110, 101, 116, 46, 120]], [[108, 97, 98, 46, 110, 101, 116, 46, 120], [110, 101, 116, 46, 120]], [[110, 101, 116, 46, 120], [110, 101, 116, 46, 120]], [[110, 101, 116, 46, 120], [111, 116, 104, 101, 114]]] y1.1) fun x3 => bi (m_lanemake_Stream_Flip y1.2 20) fun y5 => bif y5.1 then (bi (m_slices_Clone_string_string x3) fun y8 => bi (m_lanemake_Stream_Domain y5.2) fun y10 => bi (apd y8 [y10.1]) fun y12 => some (y12, y10.2)) else (some (x3, y5.2))

def m_lanemake_Stream_Pick (s : T_lanemake_Stream) (l : List Int) : Option (Int × T_lanemake_Stream) :=
  bi (m_lanemake_Stream_Next s (l.length : Int)) fun y1 => bi (getZ l y1.1) fun x3 => some (x3, y1.2)

def m_name_isLetter (c : Int) : Option Bool :=
  some (((decide ((c : Int) ≥ 97)) && (decide ((c : Int) ≤ 122))) || ((decide ((c : Int) ≥ 48)) && (decide ((c : Int) ≤ 57))))

def m_name_isLabel : Nat → Str → Option Bool
  | 0, _ => none
  | k + 1, s => bi (m_strings_CutPrefix s [95]) fun y1 => bif y1.2 then (bi (m_strings_HasPrefix y1.1 [95]) fun y4 => bi (bif !y4 then (bi (m_name_isLabel k y1.1) fun y9 => some y9) else (some false)) fun q6 => some (q6 && (decide (((s.length : Int) : Int) ≤ 63)))) else (bi (gd (decide ((s.length : Int) ≤ 9223372036854775807)) (rangeI (σ := Unit) (ρ := Bool) (fun i13 s14 => bi (getZ s (i13 : Int)) fun c25 => bi (m_name_isLetter (c25.toNat : Int)) fun y27 => bi (bif !y27 then (bi (getZ s (i13 : Int)) fun c32 => some (((c32.toNat : Int) : Int) != 45)) else (some false)) fun q29 => bif q29 then (bi (some false) fun v => some (.out v)) else (some (.go ()))) (s.length : Int) ())) fun q => goI q fun a18 => bi (bif ((!((s : Str) == [])) && (decide (((s.length : Int) : Int) ≤ 63))) then (bi (getZ s 0) fun c42 => some (((c42.toNat : Int) : Int) != 45)) else (some false)) fun q39 => bi (bif q39 then (bi (getZ s (wi ((s.length : Int) - 1))) fun c48 => some (((c48.toNat : Int) : Int) != 45)) else (some false)) fun q45 => some q45)

def m_name_CheckDomain (k : Nat) (s : Str) : Option Int :=
  bif decide (((s.length : Int) : Int) > 253) then (some 2) else (bi (m_strings_Split s [46]) fun y3 => bi (rangeM (σ := Unit) (ρ := Int) (fun i5 x7 s6 => bi (m_name_isLabel k x7) fun y16 => bif !y16 then (bi (some 5) fun v => some (.out v)) else (some (.go ()))) 0 y3 ()) fun q => goI q fun a10 => some 0)

def m_kit_IsKey (k : Nat) (s : Str) : Option Bool :=
  bi (loopM (σ := Int) (ρ := Unit ⊕ Bool) (fun s2 => bif decide ((s2 : Int) < (s.length : Int)) then (bi (getZ s s2) fun c12 => bif !(((decide (((c12.toNat : Int) : Int) ≥ 97)) && (decide (((c12.toNat : Int) : Int) ≤ 122))) || ((decide ((s2 : Int) > 0)) && ((((decide (((c12.toNat : Int) : Int) ≥ 48)) && (decide (((c12.toNat : Int) : Int) ≤ 57))) || (((c12.toNat : Int) : Int) == 45)) || (((c12.toNat : Int) : Int) == 95)))) then (bi (some false) fun v => some (.out (.inr v))) else (some (.go (wi (s2 + 1))))) else (some (.out (.inl ())))) k 0) fun q => orI q fun a6 => some ((!((s : Str) == [])) && (decide (((s.length : Int) : Int) ≤ 40)))

def m_slices_Index_string_string (s : List Str) (v : Str) : Option Int :=
  bi (rangeM (σ := Unit) (ρ := Int) (fun i1 x3 s2 => bif (v : Str) == x3 then (bi (some (i1 : Int)) fun v => some (.out v)) else (some (.go ()))) 0 s ()) fun q => goI q fun a6 => some (-1)

def m_slices_Contains_string_string (s : List Str) (v : Str) : Option Bool :=
  bi (m_slices_Index_string_string s v) fun y1 => some (decide ((y1 : Int) ≥ 0))

def m_name_CheckSplits (k : Nat) (l : List T_api_Split) : Option Int :=
  bif decide (((l.length : Int) : Int) > 50) then (some 2) else (bi (rangeM (σ := Unit) (ρ := Int) (fun i3 x5 s4 => bi (bif !((x5.Suffix : Str) == []) then (bi (m_name_CheckDomain k x5.Suffix) fun y18 => bif (y18 : Int) != 0 then (bi (bi (some y18) fun v => some (.out v)) fun v => some (.inr v)) else (some (.inl ()))) else (some (.inl ())) : Option (Unit ⊕ (LS Unit Int))) fun q => orI q fun a16 => bi (bif decide (((i3 : Int) : Int) > 0) then (bi (getZ l (wi ((i3 : Int) - 1))) fun x30 => some (Op.bytesLess x5.Suffix x30.Suffix || (x5.Suffix : Str) == x30.Suffix)) else (some false)) fun q27 => bif q27 then (bi (some 7) fun v => some (.out v)) else (bif ((x5.Servers.length : Int) : Int) == 0 then (bi (some 8) fun v => some (.out v)) else (bif decide (((x5.Servers.length : Int) : Int) > 10) then (bi (some 2) fun v => some (.out v)) else (bi (rangeM (σ := Unit) (ρ := LS Unit Int) (fun i45 x47 s46 => bi (m_kit_IsKey k x47) fun y56 => bif !y56 then (bi (bi (some 5) fun v => some (.out v)) fun v => some (.out v)) else (bi (subZ x5.Servers 0 (i45 : Int)) fun z64 => bi (m_slices_Contains_string_string z64 x47) fun y66 => bif y66 then (bi (bi (some 6) fun v => some (.out v)) fun v => some (.out v)) else (some (.go ())))) 0 x5.Servers ()) fun q => goI q fun a50 => some (.go ()))))) 0 l ()) fun q => goI q fun a8 => some 0)

def m_name_under (name : Str) (zone : Str) : Option Bool :=
  bi (bif (name : Str) == zone then (some true) else (bi (catZ [46] zone) fun y5 => bi (m_strings_HasSuffix name y5) fun y7 => some y7)) fun q1 => some q1

def m_name_servers (l : List T_api_Split) (name : Str) : Option ((List Str) × Bool) :=
  bi (rangeF (σ := Int) (fun i1 x3 s2 => bi (bif (x3.Suffix : Str) == [] then (bif decide ((s2 : Int) < 0) then (some true) else (bi (getZ l s2) fun x17 => some (decide (((x3.Suffix.length : Int) : Int) > (x17.Suffix.length : Int))))) else (bi (m_name_under name x3.Suffix) fun y20 => bif y20 then (bif decide ((s2 : Int) < 0) then (some true) else (bi (getZ l s2) fun x25 => some (decide (((x3.Suffix.length : Int) : Int) > (x25.Suffix.length : Int))))) else (some false))) fun q12 => bif q12 then (some (i1 : Int)) else (some s2)) 0 l (-1)) fun q4 => bif decide ((q4 : Int) < 0) then (some ([], false)) else (bi (getZ l q4) fun x32 => bi (m_slices_Clone_string_string x32.Servers) fun y34 => some (y34, true))

def m_name_Servers (k : Nat) (l : List T_api_Split) (name : Str) : Option ((List Str) × Bool × Int) :=
  bi (m_name_CheckSplits k l) fun y1 => bif (y1 : Int) != 0 then (some ([], false, y1)) else (bi (m_name_CheckDomain k name) fun y5 => bif (y5 : Int) != 0 then (some ([], false, y5)) else (bi (m_name_servers l name) fun y9 => some (y9.1, y9.2, 0)))

def m_name_checkDomains (k : Nat) (l : List Str) : Option Int :=
  bi (rangeM (σ := Unit) (ρ := Int) (fun i1 x3 s2 => bi (m_name_CheckDomain k x3) fun y12 => bif (y12 : Int) != 0 then (bi (some y12) fun v => some (.out v)) else (some (.go ()))) 0 l ()) fun q => goI q fun a6 => some 0

def m_kit_Outside (n : Int) (low : Int) (high : Int) : Option Bool :=
  some ((decide ((n : Int) < low)) || (decide ((n : Int) > high)))

def m_name_searchFault (k : Nat) (search : List Str) (dots : Int) : Option Int :=
  bif decide (((search.length : Int) : Int) > 10) then (some 2) else (bi (m_name_checkDomains k search) fun y3 => bif (y3 : Int) != 0 then (some y3) else (bi (m_kit_Outside dots 0 15) fun y7 => bif y7 then (some 1) else (some 0)))

def m_name_names (search : List Str) (dots : Int) (name : Str) : Option (List Str) :=
  bi (rangeF (σ := List Str) (fun i1 x3 s2 => bi (catZ name [46]) fun y12 => bi (catZ y12 x3) fun y14 => bi (apd s2 [y14]) fun y16 => some y16) 0 search ([] : List Str)) fun q4 => bi (m_strings_Count name [46]) fun y18 => bi (bif decide ((y18 : Int) < dots) then (bi (apd q4 [name]) fun y23 => some y23) else (bi (apd [name] q4) fun y26 => some y26)) fun q20 => bi (gd (decide ((q20.length : Int) ≤ 9223372036854775807)) (rangeG (σ := List Str) (fun i28 s29 => bi (getZ q20 (i28 : Int)) fun x40 => bi (bif decide (((x40.length : Int) : Int) ≤ 253) then (bi (m_slices_Contains_string_string s29 x40) fun y46 => some (!y46)) else (some false)) fun q43 => bif q43 then (bi (apd s29 [x40]) fun y50 => some y50) else (some s29)) (q20.length : Int) ([] : List Str))) fun q31 => some q31

def m_name_Names (k : Nat) (search : List Str) (dots : Int) (name : Str) : Option ((List Str) × Int) :=
  bi (m_name_searchFault k search dots) fun y1 => bif (y1 : Int) != 0 then (some ([], y1)) else (bi (m_name_CheckDomain k name) fun y5 => bif (y5 : Int) != 0 then (some ([], y5)) else (bi (m_name_names search dots name) fun y9 => some (y9, 0)))

def m_laneref1_LabelForm (s : Str) : Option Bool :=
  bif decide (((s.length : Int) : Int) > 63) then (some false) else (bi (m_strings_TrimPrefix s [95]) fun y3 => bi (bif !((y3 : Str) == []) then (bi (m_strings_Trim y3 [97, 98, 99, 100, 101, 102, 103, 104, 105, 106, 107, 108, 109, 110, 111, 112, 113, 114, 115, 116, 117, 118, 119, 120, 121, 122, 48, 49, 50, 51, 52, 53, 54, 55, 56, 57, 45]) fun y8 => some ((y8 : Str) == [])) else (some false)) fun q5 => bi (bif q5 then (bi (getZ y3 0) fun c14 => some (((c14.toNat : Int) : Int) != 45)) else (some false)) fun q11 => bi (bif q11 then (bi (getZ y3 (wi ((y3.length : Int) - 1))) fun c20 => some (((c20.toNat : Int) : Int) != 45)) else (some false)) fun q17 => some q17)

def m_laneref1_DomainFault (s : Str) : Option Int :=
  bif decide (((s.length : Int) : Int) > 253) then (some 2) else (bi (m_strings_Split s [46]) fun y3 => bi (rangeM (σ := Unit) (ρ := Int) (fun i5 x7 s6 => bi (m_laneref1_LabelForm x7) fun y16 => bif !y16 then (bi (some 5) fun v => some (.out v)) else (some (.go ()))) 0 y3 ()) fun q => goI q fun a10 => some 0)

def m_laneref2_in (n : Int) (low : Int) (high : Int) : Option Bool :=
  some ((decide ((low : Int) ≤ n)) && (decide ((n : Int) ≤ high)))

def m_laneref2_only (s : Str) (v_some : Str) : Option Bool :=
  bi (m_strings_Trim s v_some) fun y1 => some ((y1 : Str) == [])

def m_laneref2_Key (s : Str) : Option Bool :=
  bi (m_laneref2_in (s.length : Int) 1 40) fun y1 => bi (bif y1 then (bi (subZ s 0 1) fun z6 => bi (m_laneref2_only z6 [97, 98, 99, 100, 101, 102, 103, 104, 105, 106, 107, 108, 109, 110, 111, 112, 113, 114, 115, 116, 117, 118, 119, 120, 121, 122]) fun y8 => some y8) else (some false)) fun q3 => bi (bif q3 then (bi (m_laneref2_only s [97, 98, 99, 100, 101, 102, 103, 104, 105, 106, 107, 108, 109, 110, 111, 112, 113, 114, 115, 116, 117, 118, 119, 120, 121, 122, 48, 49, 50, 51, 52, 53, 54, 55, 56, 57, 45, 95]) fun y14 => some y14) else (some false)) fun q11 => some q11

def m_laneref1_SplitsFault_1 (x : Str) : Option Bool :=
  bi (m_laneref2_Key x) fun y1 => some (!y1)

def m_slices_IndexFunc_string_string (s : List Str) : Option Int :=
  bi (rangeM (σ := Unit) (ρ := Int) (fun i1 x3 s2 => bi (m_laneref1_SplitsFault_1 x3) fun y12 => bif y12 then (bi (some (i1 : Int)) fun v => some (.out v)) else (some (.go ()))) 0 s ()) fun q => goI q fun a6 => some (-1)

def m_slices_ContainsFunc_string_string (s : List Str) : Option Bool :=
  bi (m_slices_IndexFunc_string_string s) fun y1 => some (decide ((y1 : Int) ≥ 0))

def m_laneref1_SplitsFault (l : List T_api_Split) : Option Int :=
  bif decide (((l.length : Int) : Int) > 50) then (some 2) else (bi (rangeM (σ := Unit) (ρ := Int) (fun i3 x5 s4 => bi (bif !((x5.Suffix : Str) == []) then (bi (m_laneref1_DomainFault x5.Suffix) fun y18 => bif (y18 : Int) != 0 then (bi (bi (some y18) fun v => some (.out v)) fun v => some (.inr v)) else (some (.inl ()))) else (some (.inl ())) : Option (Unit ⊕ (LS Unit Int))) fun q => orI q fun a16 => bi (bif decide (((i3 : Int) : Int) > 0) then (bi (getZ l (wi ((i3 : Int) - 1))) fun x30 => some (Op.bytesLess x5.Suffix x30.Suffix || (x5.Suffix : Str) == x30.Suffix)) else (some false)) fun q27 => bif q27 then (bi (some 7) fun v => some (.out v)) else (bif ((x5.Servers.length : Int) : Int) == 0 then (bi (some 8) fun v => some (.out v)) else (bif decide (((x5.Servers.length : Int) : Int) > 10) then (bi (some 2) fun v => some (.out v)) else (bi (m_slices_ContainsFunc_string_string x5.Servers) fun y45 => bif y45 then (bi (some 5) fun v => some (.out v)) else (bi (rangeM (σ := Unit) (ρ := LS Unit Int) (fun i51 x53 s52 => bi (subZ x5.Servers 0 (i51 : Int)) fun z62 => bi (m_slices_Contains_string_string z62 x53) fun y64 => bif y64 then (bi (bi (some 6) fun v => some (.out v)) fun v => some (.out v)) else (some (.go ()))) 0 x5.Servers ()) fun q => goI q fun a56 => some (.go ())))))) 0 l ()) fun q => goI q fun a8 => some 0)

def m_cmp_Or_api_Errno (vals : List Int) : Option Int :=
  bi (rangeM (σ := Unit) (ρ := Int) (fun i1 x3 s2 => bif (x3 : Int) != 0 then (bi (some x3) fun v => some (.out v)) else (some (.go ()))) 0 vals ()) fun q => goI q fun a6 => some 0

def m_laneref1_in (n : Int) (low : Int) (high : Int) : Option Bool :=
  some ((decide ((low : Int) ≤ n)) && (decide ((n : Int) ≤ high)))

def m_laneref1_SearchFault (search : List Str) (dots : Int) : Option Int :=
  bif decide (((search.length : Int) : Int) > 10) then (some 2) else (bi (rangeM (σ := Unit) (ρ := Int) (fun i3 x5 s4 => bi (m_laneref1_DomainFault x5) fun y14 => bif (y14 : Int) != 0 then (bi (some y14) fun v => some (.out v)) else (some (.go ()))) 0 search ()) fun q => goI q fun a8 => bi (m_laneref1_in dots 0 15) fun y20 => bif !y20 then (some 1) else (some 0))

def m_laneref1_ServersOf (k : Nat) (l : List T_api_Split) (name : Str) : Option ((List Str) × Bool) :=
  bi (loopM (σ := Str) (ρ := (List Str) × Bool) (fun s2 => bi (rangeM (σ := Unit) (ρ := LS Str ((List Str) × Bool)) (fun i11 x13 s12 => bif (x13.Suffix : Str) == s2 then (bi (m_slices_Clone_string_string x13.Servers) fun y23 => bi (bi (some (y23, true)) fun v => some (.out v)) fun v => some (.out v)) else (some (.go ()))) 0 l ()) fun q => goI q fun a16 => bif (s2 : Str) == [] then (bi (some ([], false)) fun v => some (.out v)) else (bi (m_strings_Cut s2 [46]) fun y34 => some (.go y34.2.1))) k name) fun v => some v

def m_slices_Equal_string_string (s1 : List Str) (s2 : List Str) : Option Bool :=
  bif ((s1.length : Int) : Int) != (s2.length : Int) then (some false) else (bi (rangeM (σ := Unit) (ρ := Bool) (fun i3 x5 s4 => bi (getZ s2 (i3 : Int)) fun x14 => bif !((x5 : Str) == x14) then (bi (some false) fun v => some (.out v)) else (some (.go ()))) 0 s1 ()) fun q => goI q fun a8 => some true)

def m_laneref1_NamesTried (search : List Str) (dots : Int) (name : Str) : Option (List Str) :=
  bi (rangeF (σ := List Str) (fun i1 x3 s2 => bi (catZ name [46]) fun y12 => bi (catZ y12 x3) fun y14 => bi (apd s2 [y14]) fun y16 => some y16) 0 search [name]) fun q4 => bi (m_strings_Count name [46]) fun y18 => bi (bif decide ((y18 : Int) < dots) then (bi (subZ q4 1 (q4.length : Int)) fun z23 => bi (apd z23 [name]) fun y25 => some y25) else (some q4)) fun q20 => bi (rangeF (σ := List Str) (fun i28 x30 s29 => bi (bif decide (((x30.length : Int) : Int) ≤ 253) then (bi (m_slices_Contains_string_string s29 x30) fun y42 => some (!y42)) else (some false)) fun q39 => bif q39 then (bi (apd s29 [x30]) fun y46 => some y46) else (some s29)) 0 q20 ([] : List Str)) fun q31 => some q31

def m_name_Label (s : Str) : Option Str :=
  bi (gd (decide ((s.length : Int) ≤ 9223372036854775807)) (rangeG (σ := List Int) (fun i1 s2 => bi (getZ s (i1 : Int)) fun c13 => bi (bif ((decide (((c13.toNat : Int) : Int) ≥ 65)) && (decide (((c13.toNat : Int) : Int) ≤ 90))) then (some (IntKind.u8.wrap ((c13.toNat : Int) + 32))) else (some (c13.toNat : Int))) fun q15 => bi (m_name_isLetter q15) fun y19 => bif y19 then (bi (apd s2 [q15]) fun y22 => some y22) else (bi (bif ((s2.length : Int) : Int) == 0 then (some true) else (bi (getZ s2 (wi ((s2.length : Int) - 1))) fun x29 => some ((x29 : Int) != 45))) fun q25 => bif q25 then (bi (apd s2 [45]) fun y33 => some y33) else (some s2))) (s.length : Int) ([] : List Int))) fun q4 => bi (subZ q4 0 (if 63 < (q4.length : Int) then 63 else (q4.length : Int))) fun z36 => bi (strB z36) fun y38 => bi (m_strings_Trim y38 [45]) fun y40 => bif (y40 : Str) == [] then (some [110, 111, 100, 101]) else (some y40)

def m_lanelaw1_named (k : Nat) : Option Bool :=
  bi (m_name_Label [65, 32, 98]) fun y1 => bi (bif (y1 : Str) == [97, 45, 98] then (bi (m_name_CheckDomain k [97, 46, 46, 98]) fun y6 => some ((y6 : Int) == 5)) else (some false)) fun q3 => some q3

def m_lanelaw1_ServersSplit (k : Nat) (l : List Int) : Option Bool :=
  bi (m_lanemake_Stream_Splits (⟨l, 0⟩ : T_lanemake_Stream)) fun y1 => bi (m_lanemake_Stream_Domain y1.2) fun y3 => bi (m_lanemake_Stream_Search y3.2) fun y5 => bi (m_lanemake_Stream_Pick y5.2 [0, 1, 2, 15, -1, 16]) fun y7 => bi (m_name_Servers k y1.1 y3.1) fun y9 => bi (m_name_Names k y5.1 y7.1 y3.1) fun y11 => bi (m_laneref1_SplitsFault y1.1) fun y13 => bi (m_name_CheckSplits k y1.1) fun y15 => bif (y15 : Int) != y13 then (some false) else (bi (m_laneref1_DomainFault y3.1) fun y19 => bi (m_cmp_Or_api_Errno [y13, y19]) fun y21 => bi (m_laneref1_SearchFault y5.1 y7.1) fun y23 => bi (m_laneref1_DomainFault y3.1) fun y25 => bi (m_cmp_Or_api_Errno [y23, y25]) fun y27 => bif (((y9.2.2 : Int) != y21) || ((y11.2 : Int) != y27)) then (some false) else (bi (bif (y21 : Int) == 0 then (bi (m_laneref1_ServersOf k y1.1 y3.1) fun y35 => bi (m_slices_Equal_string_string y9.1 y35.1) fun y37 => bif ((!y37) || (!((y9.2.1 : Bool) == y35.2))) then (bi (some false) fun v => some (.inr v)) else (some (.inl ()))) else (some (.inl ())) : Option (Unit ⊕ Bool)) fun q => orI q fun a33 => bi (bif (y27 : Int) != 0 then (some true) else (bi (m_laneref1_NamesTried y5.1 y7.1 y3.1) fun y48 => bi (m_slices_Equal_string_string y11.1 y48) fun y50 => some y50)) fun q44 => bi (bif q44 then (bi (m_lanelaw1_named k) fun y55 => some y55) else (some false)) fun q52 => some q52))

end Go.Gk
