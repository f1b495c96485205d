/-
  Models of functions.
-/
import Derived.Test.YtffmljbfffojlaaGreatDoorMStr3
import Derived.Test.YtffmljbfffojlaaGreatDoorMStr6
set_option linter.unusedVariables false
namespace Go.Gk
noncomputable section
structure T_lanemake_Stream where
  L : List Int
  v_at : Int
  deriving DecidableEq
structure T_api_Addr where
  Six : Bool
  Hi : Int
  Lo : Int
  deriving DecidableEq


def m_lanemake_Below (x : Int) (n : Int) : Option Int :=
  bif decide ((n : Int) < 1) then (some 0) else (bi (remZ x n) fun y3 => bi (bif decide ((y3 : Int) < 0) then (some (wi (y3 + n))) else (some y3)) fun q5 => some q5)

def m_lanemake_Stream_Next (s : T_lanemake_Stream) (n : Int) : Option (Int × T_lanemake_Stream) :=
  bif ((s.L.length : Int) : Int) == 0 then (bi (m_lanemake_Below (wi ((wi (s.v_at + 1)) * 7919)) n) fun y2 => some (y2, (⟨s.L, wi (s.v_at + 1)⟩ : T_lanemake_Stream))) else (bi (remZ (wi ((wi (s.v_at + 1)) - 1)) (s.L.length : Int)) fun y5 => bi (divZ .i64 (wi ((wi (s.v_at + 1)) - 1)) (s.L.length : Int)) fun y7 => bi (getZ s.L y5) fun x9 => bi (m_lanemake_Below x9 1073741824) fun y11 => bi (m_lanemake_Below (wi (y11 + (wi (y7 * (wi (7919 + y5)))))) n) fun y13 => some (y13, (⟨s.L, wi (s.v_at + 1)⟩ : T_lanemake_Stream)))

def m_lanemake_Stream_Range (s : T_lanemake_Stream) (low : Int) (high : Int) : Option (Int × T_lanemake_Stream) :=
  bif decide ((high : Int) < low) then (some (low, s)) else (bi (m_lanemake_Stream_Next s (wi ((wi (high - low)) + 1))) fun y3 => some (wi (low + y3.1), y3.2))

def m_lanemake_Stream_Addr (s : T_lanemake_Stream) : Option (T_api_Addr × T_lanemake_Stream) :=
  bi (m_lanemake_Stream_Next s 6) fun y1 => bif (y1.1 : Int) == 0 then (bi (m_lanemake_Stream_Next y1.2 5) fun y4 => bi (getZ [0, 18230571291595767808, 2306139568115548160, 9223372036854775808, 18446744073709551615] y4.1) fun x6 => bi (m_lanemake_Stream_Next y4.2 5) fun y8 => bi (getZ [0, 1, 2, 4294967296, 18446744073709551615] y8.1) fun x10 => some ((⟨true, x6, x10⟩ : T_api_Addr), y8.2)) else (bif (y1.1 : Int) == 1 then (bi (m_lanemake_Stream_Next y1.2 5) fun y14 => bi (getZ [0, 1, 4294967295, 2130706433, 3232235521] y14.1) fun x16 => some ((⟨false, 0, x16⟩ : T_api_Addr), y14.2)) else (bif (y1.1 : Int) == 2 then (bi (m_lanemake_Stream_Range y1.2 0 16777216) fun y20 => bi (remZ (IntKind.u64.wrap ((IntKind.u64.wrap (y20.1)) * 251)) 4294967296) fun y22 => some ((⟨false, 0, y22⟩ : T_api_Addr), y20.2)) else (bi (m_lanemake_Stream_Range y1.2 0 20) fun y25 => some ((⟨false, 0, IntKind.u64.wrap (167772160 + (IntKind.u64.wrap (y25.1)))⟩ : T_api_Addr), y25.2))))

def m_lanemake_Stream_Flip (s : T_lanemake_Stream) (n : Int) : Option (Bool × T_lanemake_Stream) :=
  bi (m_lanemake_Stream_Next s n) fun y1 => some ((y1.1 : Int) == 0, y1.2)

def m_lanemake_Stream_Raw (s : T_lanemake_Stream) : Option (T_api_Addr × T_lanemake_Stream) :=
  bi (m_lanemake_Stream_Addr s) fun y1 => bi (m_lanemake_Stream_Flip y1.2 15) fun y3 => bif y3.1 then (bi (m_lanemake_Stream_Next y3.2 2) fun y6 => bi (m_lanemake_Stream_Next y6.2 3) fun y8 => bi (getZ [4294967296, 5, 1099511627776] y8.1) fun x10 => some ((⟨false, IntKind.u64.wrap (y6.1), x10⟩ : T_api_Addr), y8.2)) else (some (y1.1, y3.2))

def m_addr_CheckAddr (a : T_api_Addr) : Option Int :=
  bif ((!a.Six) && (((a.Hi : Int) != 0) || (decide ((a.Lo : Int) ≥ 4294967296)))) then (some 3) else (some 0)

def m_name_back (k : Nat) (a : T_api_Addr) : Option Str :=
  bif !a.Six then (bi (loopM (σ := (List Str) × Int) (ρ := List Str) (fun s3 => bif decide ((s3.2 : Int) < 4) then (bi (shrZ .u64 a.Lo (wi (8 * s3.2))) fun y13 => bi (m_strconv_FormatUint (bitsV .and .u64 y13 255) 10) fun y15 => bi (apd s3.1 [y15]) fun y17 => some (.go (y17, wi (s3.2 + 1)))) else (some (.out s3.1))) k (([] : List Str), 0)) fun q5 => bi (m_strings_Join q5 [46]) fun y20 => bi (catZ y20 [46, 105, 110, 45, 97, 100, 100, 114, 46, 97, 114, 112, 97]) fun y22 => some y22) else (bi (loopM (σ := (List Str) × Int) (ρ := List Str) (fun s26 => bif decide ((s26.2 : Int) < 2) then (bi (getZ ([a.Lo, a.Hi] : List Int) s26.2) fun x36 => bi (loopM (σ := (List Str) × Int) (ρ := List Str) (fun s39 => bif decide ((s39.2 : Int) < 16) then (bi (shrZ .u64 x36 (wi (4 * s39.2))) fun y49 => bi (m_strconv_FormatUint (bitsV .and .u64 y49 15) 16) fun y51 => bi (apd s39.1 [y51]) fun y53 => some (.go (y53, wi (s39.2 + 1)))) else (some (.out s39.1))) k (s26.1, 0)) fun q41 => some (.go (q41, wi (s26.2 + 1)))) else (some (.out s26.1))) k (([] : List Str), 0)) fun q28 => bi (m_strings_Join q28 [46]) fun y57 => bi (catZ y57 [46, 105, 112, 54, 46, 97, 114, 112, 97]) fun y59 => some y59)

def m_name_Back (k : Nat) (a : T_api_Addr) : Option (Str × Int) :=
  bi (m_addr_CheckAddr a) fun y1 => bif (y1 : Int) != 0 then (some ([], y1)) else (bi (m_name_back k a) fun y5 => some (y5, 0))

def m_laneref2_AddrFault (a : T_api_Addr) : Option Int :=
  bif ((!a.Six) && ((decide ((a.Hi : Int) > 0)) || (decide ((a.Lo : Int) > 4294967295)))) then (some 3) else (some 0)

def m_laneref1_BackName (k : Nat) (a : T_api_Addr) : Option Str :=
  bif !a.Six then (bi (loopM (σ := Str × Int) (ρ := Str) (fun s3 => bif decide ((s3.2 : Int) < 4) then (bi (shrZ .u64 a.Lo (wi (8 * s3.2))) fun y13 => bi (m_strconv_Itoa (wi (bitsV .and .u64 y13 255))) fun y15 => bi (catZ y15 [46]) fun y17 => bi (catZ s3.1 y17) fun y19 => some (.go (y19, wi (s3.2 + 1)))) else (some (.out s3.1))) k ([], 0)) fun q5 => bi (catZ q5 [105, 110, 45, 97, 100, 100, 114, 46, 97, 114, 112, 97]) fun y22 => some y22) else (bi (rangeF (σ := Str) (fun i25 x27 s26 => bi (loopM (σ := Str × Int) (ρ := Str) (fun s37 => bif decide ((s37.2 : Int) < 16) then (bi (shrZ .u64 x27 (wi (4 * s37.2))) fun y47 => bi (getZ ([48, 49, 50, 51, 52, 53, 54, 55, 56, 57, 97, 98, 99, 100, 101, 102] : Str) (bitsV .and .u64 y47 15)) fun c49 => bi (catZ (runeS (c49.toNat : Int)) [46]) fun y51 => bi (catZ s37.1 y51) fun y53 => some (.go (y53, wi (s37.2 + 1)))) else (some (.out s37.1))) k (s26, 0)) fun q39 => some q39) 0 [a.Lo, a.Hi] []) fun q28 => bi (catZ q28 [105, 112, 54, 46, 97, 114, 112, 97]) fun y56 => some y56)

def m_lanemake_Stream_Changed (s : T_lanemake_Stream) (t : Str) (v_with : Str) : Option (Str × T_lanemake_Stream) :=
  bif (((t : Str) == []) || ((v_with : Str) == [])) then (some (v_with, s)) else (bi (m_lanemake_Stream_Next s (t.length : Int)) fun y3 => bi (m_lanemake_Stream_Next y3.2 (v_with.length : Int)) fun y5 => bi (getZ v_with y5.1) fun c7 => bi (m_lanemake_Stream_Next y5.2 3) fun y9 => bif (y9.1 : Int) == 0 then (bi (subZ t 0 y3.1) fun z12 => bi (catZ z12 (runeS (IntKind.i32.wrap ((c7.toNat : Int))))) fun y14 => bi (subZ t (wi (y3.1 + 1)) (t.length : Int)) fun z16 => bi (catZ y14 z16) fun y18 => some (y18, y9.2)) else (bif (y9.1 : Int) == 1 then (bi (subZ t 0 y3.1) fun z22 => bi (catZ z22 (runeS (IntKind.i32.wrap ((c7.toNat : Int))))) fun y24 => bi (subZ t y3.1 (t.length : Int)) fun z26 => bi (catZ y24 z26) fun y28 => some (y28, y9.2)) else (bi (subZ t 0 y3.1) fun z31 => bi (subZ t (wi (y3.1 + 1)) (t.length : Int)) fun z33 => bi (catZ z31 z33) fun y35 => some (y35, y9.2))))

def m_name_isLetter (c : Int) : Option Bool :=
  some (((decide ((c : Int) ≥ 97)) && (decide ((c : Int) ≤ 122))) || ((decide ((c : Int) ≥ 48)) && (decide ((c : Int) ≤ 57))))

def m_name_isLabel : Nat → Str → Option Bool
  | 0, _ => none
  | k + 1, s => bi (m_strings_CutPrefix s [95]) fun y1 => bif y1.2 then (bi (m_strings_HasPrefix y1.1 [95]) fun y4 => bi (bif !y4 then (bi (m_name_isLabel k y1.1) fun y9 => some y9) else (some false)) fun q6 => some (q6 && (decide (((s.length : Int) : Int) ≤ 63)))) else (bi (gd (decide ((s.length : Int) ≤ 9223372036854775807)) (rangeI (σ := Unit) (ρ := Bool) (fun i13 s14 => bi (getZ s (i13 : Int)) fun c25 => bi (m_name_isLetter (c25.toNat : Int)) fun y27 => bi (bif !y27 then (bi (getZ s (i13 : Int)) fun c32 => some (((c32.toNat : Int) : Int) != 45)) else (some false)) fun q29 => bif q29 then (bi (some false) fun v => some (.out v)) else (some (.go ()))) (s.length : Int) ())) fun q => goI q fun a18 => bi (bif ((!((s : Str) == [])) && (decide (((s.length : Int) : Int) ≤ 63))) then (bi (getZ s 0) fun c42 => some (((c42.toNat : Int) : Int) != 45)) else (some false)) fun q39 => bi (bif q39 then (bi (getZ s (wi ((s.length : Int) - 1))) fun c48 => some (((c48.toNat : Int) : Int) != 45)) else (some false)) fun q45 => some q45)

def m_name_CheckDomain (k : Nat) (s : Str) : Option Int :=
  bif decide (((s.length : Int) : Int) > 253) then (some 2) else (bi (m_strings_Split s [46]) fun y3 => bi (rangeM (σ := Unit) (ρ := Int) (fun i5 x7 s6 => bi (m_name_isLabel k x7) fun y16 => bif !y16 then (bi (some 5) fun v => some (.out v)) else (some (.go ()))) 0 y3 ()) fun q => goI q fun a10 => some 0)

def m_internal_stringslite_HasSuffix (s : Str) (suffix : Str) : Option Bool :=
  bi (bif decide (((s.length : Int) : Int) ≥ (suffix.length : Int)) then (bi (subZ s (wi ((s.length : Int) - (suffix.length : Int))) (s.length : Int)) fun z4 => some ((z4 : Str) == suffix)) else (some false)) fun q1 => some q1

def m_internal_stringslite_CutSuffix (s : Str) (suffix : Str) : Option (Str × Bool) :=
  bi (m_internal_stringslite_HasSuffix s suffix) fun y1 => bif !y1 then (some (s, false)) else (bi (subZ s 0 (wi ((s.length : Int) - (suffix.length : Int)))) fun z5 => some (z5, true))

def m_strings_CutSuffix (s : Str) (suffix : Str) : Option (Str × Bool) :=
  bi (m_internal_stringslite_CutSuffix s suffix) fun y1 => some (y1.1, y1.2)

def m_slices_Reverse_string_string (k : Nat) (s : List Str) : Option (List Str) :=
  bi (loopM (σ := (List Str) × Int × Int) (ρ := List Str) (fun s2 => bif decide ((s2.2.1 : Int) < s2.2.2) then (bi (getZ s2.1 s2.2.2) fun x12 => bi (getZ s2.1 s2.2.1) fun x15 => bi (getZ s2.1 s2.2.1) fun x18 => bi (getZ s2.1 s2.2.2) fun x21 => bi (getZ (s2.1.set s2.2.1.toNat x12) ((s2.2.2.toNat : Nat) : Int)) fun x24 => some (.go ((s2.1.set s2.2.1.toNat x12).set s2.2.2.toNat x15, wi (s2.2.1 + 1), wi (s2.2.2 - 1)))) else (some (.out s2.1))) k (s, 0, wi ((s.length : Int) - 1))) fun q4 => some q4

def m_name_BackTo (k : Nat) (name : Str) : Option (T_api_Addr × Bool × Int) :=
  bi (m_name_CheckDomain k name) fun y1 => bif (y1 : Int) != 0 then (some ((⟨false, 0, 0⟩ : T_api_Addr), false, y1)) else (bi (m_strings_CutSuffix name [46, 105, 112, 54, 46, 97, 114, 112, 97]) fun y5 => bi (bif !y5.2 then (bi (m_strings_CutSuffix name [46, 105, 110, 45, 97, 100, 100, 114, 46, 97, 114, 112, 97]) fun y10 => some y10.1) else (some y5.1)) fun q7 => bi (m_strings_Split q7 [46]) fun y13 => bi (m_slices_Reverse_string_string k y13) fun y15 => gd (decide (y15.length = y13.length)) (bi (bif y5.2 then (some (16, 4)) else (some (10, 8))) fun q19 => bi (gd (decide ((y15.length : Int) ≤ 9223372036854775807)) (rangeI (σ := T_api_Addr) (ρ := T_api_Addr × Bool × Int) (fun i23 s24 => bi (getZ y15 (i23 : Int)) fun x35 => bi (m_strconv_ParseUint x35 q19.1 q19.2) fun y38 => match y38 with | none => (bi (some ((⟨false, 0, 0⟩ : T_api_Addr), false, 0)) fun v => some (.out v)) | some z40 => (bi (shlZ .u64 s24.Hi q19.2) fun y45 => bi (shrZ .u64 s24.Lo (wi (64 - q19.2))) fun y47 => bi (shlZ .u64 s24.Lo q19.2) fun y49 => some (.go (⟨s24.Six, bitsV .or .u64 y45 y47, bitsV .or .u64 y49 z40⟩ : T_api_Addr)))) (y15.length : Int) (⟨y5.2, 0, 0⟩ : T_api_Addr))) fun q => goI q fun a28 => bi (m_addr_CheckAddr a28) fun y51 => bi (bif (y51 : Int) != 0 then (some true) else (bi (m_name_back k a28) fun y57 => some (!((y57 : Str) == name)))) fun q53 => bif q53 then (some ((⟨false, 0, 0⟩ : T_api_Addr), false, 0)) else (some (a28, true, 0))))

def m_laneref1_LabelForm (s : Str) : Option Bool :=
  bif decide (((s.length : Int) : Int) > 63) then (some false) else (bi (m_strings_TrimPrefix s [95]) fun y3 => bi (bif !((y3 : Str) == []) then (bi (m_strings_Trim y3 [97, 98, 99, 100, 101, 102, 103, 104, 105, 106, 107, 108, 109, 110, 111, 112, 113, 114, 115, 116, 117, 118, 119, 120, 121, 122, 48, 49, 50, 51, 52, 53, 54, 55, 56, 57, 45]) fun y8 => some ((y8 : Str) == [])) else (some false)) fun q5 => bi (bif q5 then (bi (getZ y3 0) fun c14 => some (((c14.toNat : Int) : Int) != 45)) else (some false)) fun q11 => bi (bif q11 then (bi (getZ y3 (wi ((y3.length : Int) - 1))) fun c20 => some (((c20.toNat : Int) : Int) != 45)) else (some false)) fun q17 => some q17)

def m_laneref1_DomainFault (s : Str) : Option Int :=
  bif decide (((s.length : Int) : Int) > 253) then (some 2) else (bi (m_strings_Split s [46]) fun y3 => bi (rangeM (σ := Unit) (ρ := Int) (fun i5 x7 s6 => bi (m_laneref1_LabelForm x7) fun y16 => bif !y16 then (bi (some 5) fun v => some (.out v)) else (some (.go ()))) 0 y3 ()) fun q => goI q fun a10 => some 0)

def m_name_Label (s : Str) : Option Str :=
  bi (gd (decide ((s.length : Int) ≤ 9223372036854775807)) (rangeG (σ := List Int) (fun i1 s2 => bi (getZ s (i1 : Int)) fun c13 => bi (bif ((decide (((c13.toNat : Int) : Int) ≥ 65)) && (decide (((c13.toNat : Int) : Int) ≤ 90))) then (some (IntKind.u8.wrap ((c13.toNat : Int) + 32))) else (some (c13.toNat : Int))) fun q15 => bi (m_name_isLetter q15) fun y19 => bif y19 then (bi (apd s2 [q15]) fun y22 => some y22) else (bi (bif ((s2.length : Int) : Int) == 0 then (some true) else (bi (getZ s2 (wi ((s2.length : Int) - 1))) fun x29 => some ((x29 : Int) != 45))) fun q25 => bif q25 then (bi (apd s2 [45]) fun y33 => some y33) else (some s2))) (s.length : Int) ([] : List Int))) fun q4 => bi (subZ q4 0 (if 63 < (q4.length : Int) then 63 else (q4.length : Int))) fun z36 => bi (strB z36) fun y38 => bi (m_strings_Trim y38 [45]) fun y40 => bif (y40 : Str) == [] then (some [110, 111, 100, 101]) else (some y40)

def m_lanelaw1_named (k : Nat) : Option Bool :=
  bi (m_name_Label [65, 32, 98]) fun y1 => bi (bif (y1 : Str) == [97, 45, 98] then (bi (m_name_CheckDomain k [97, 46, 46, 98]) fun y6 => some ((y6 : Int) == 5)) else (some false)) fun q3 => some q3

def m_laneref2_only (s : Str) (v_some : Str) : Option Bool :=
  bi (m_strings_Trim s v_some) fun y1 => some ((y1 : Str) == [])

def m_laneref2_Number (s : Str) (most : Int) : Option (Int × Bool) :=
  bi (m_strings_TrimPrefix s [45]) fun y1 => bi (bif (((y1 : Str) == []) || (decide (((y1.length : Int) : Int) > most))) then (some true) else (bi (m_laneref2_only y1 [48, 49, 50, 51, 52, 53, 54, 55, 56, 57]) fun y7 => some (!y7))) fun q3 => bif q3 then (some (0, false)) else (bi (m_strconv_Atoi s) fun y11 => bi (m_strconv_Itoa y11) fun y13 => some (y11, (y13 : Str) == s))

def m_laneref1_AddrOfBack (k : Nat) (name : Str) : Option (T_api_Addr × Bool) :=
  bi (m_strings_Split name [46]) fun y1 => bi (bif ((y1.length : Int) : Int) == 6 then (bi (loopM (σ := Int × Int) (ρ := Int) (fun s8 => bif decide ((s8.2 : Int) < 4) then (bi (getZ y1 s8.2) fun x18 => bi (m_laneref2_Number x18 3) fun y20 => bi (shlZ .u64 (IntKind.u64.wrap (bitsV .and .i64 y20.1 255)) (wi (8 * s8.2))) fun y22 => some (.go (bitsV .or .u64 s8.1 y22, wi (s8.2 + 1)))) else (some (.out s8.1))) k (0, 0)) fun q10 => some (.inl (⟨false, 0, q10⟩ : T_api_Addr))) else (bif ((y1.length : Int) : Int) == 34 then (bi (loopM (σ := Int × Int × Int) (ρ := T_api_Addr) (fun s28 => bif decide ((s28.2.2 : Int) < 32) then (bi (getZ y1 s28.2.2) fun x38 => bi (m_strings_Index [48, 49, 50, 51, 52, 53, 54, 55, 56, 57, 97, 98, 99, 100, 101, 102] x38) fun y40 => bif decide ((s28.2.2 : Int) < 16) then (bi (shlZ .u64 (IntKind.u64.wrap ((if 0 > y40 then 0 else y40))) (wi (4 * s28.2.2))) fun y43 => some (.go (s28.1, bitsV .or .u64 s28.2.1 y43, wi (s28.2.2 + 1)))) else (bi (shlZ .u64 (IntKind.u64.wrap ((if 0 > y40 then 0 else y40))) (wi (4 * (wi (s28.2.2 - 16))))) fun y46 => some (.go (bitsV .or .u64 s28.1 y46, s28.2.1, wi (s28.2.2 + 1))))) else (some (.out (⟨true, s28.1, s28.2.1⟩ : T_api_Addr)))) k (0, 0, 0)) fun q30 => some (.inl q30)) else (bi (some ((⟨false, 0, 0⟩ : T_api_Addr), false)) fun v => some (.inr v))) : Option (T_api_Addr ⊕ (T_api_Addr × Bool))) fun q => orI q fun a5 => bi (m_laneref1_BackName k a5) fun y52 => bif !((y52 : Str) == name) then (some ((⟨false, 0, 0⟩ : T_api_Addr), false)) else (some (a5, true))

def m_lanelaw1_AddressesNamed (k : Nat) (l : List Int) : Option Bool :=
  bi (m_lanemake_Stream_Raw (⟨l, 0⟩ : T_lanemake_Stream)) fun y1 => bi (m_name_Back k y1.1) fun y3 => bi (m_laneref2_AddrFault y1.1) fun y5 => bi (bif (y3.2 : Int) != y5 then (some true) else (bi (bif (y5 : Int) == 0 then (bi (m_laneref1_BackName k y1.1) fun y14 => some (!((y3.1 : Str) == y14))) else (some false)) fun q11 => some q11)) fun q7 => bif (q7 || (((y5 : Int) != 0) && (!((y3.1 : Str) == [])))) then (some false) else (bi (m_lanemake_Stream_Addr y1.2) fun y19 => bi (m_laneref1_BackName k y19.1) fun y21 => bi (m_lanemake_Stream_Flip y19.2 2) fun y23 => bi (bif y23.1 then (bi (m_lanemake_Stream_Changed y23.2 y21 [48, 49, 50, 51, 52, 53, 54, 55, 56, 57, 97, 102, 46, 122]) fun y28 => some (y28.2, y28.1)) else (some (y23.2, y21))) fun q25 => bi (m_name_BackTo k q25.2) fun y31 => bi (m_laneref1_DomainFault q25.2) fun y33 => bif (y33 : Int) != 0 then (bi (bif ((((y31.2.2 : Int) == y33) && (!y31.2.1)) && (((y31.1.Six : Bool) == false) && (((y31.1.Hi : Int) == 0) && (((y31.1.Lo : Int) == 0) && true)))) then (bi (m_lanelaw1_named k) fun y39 => some y39) else (some false)) fun q36 => some q36) else (bi (m_laneref1_AddrOfBack k q25.2) fun y43 => bi (bif ((((y31.2.2 : Int) == 0) && (((y31.1.Six : Bool) == y43.1.Six) && (((y31.1.Hi : Int) == y43.1.Hi) && (((y31.1.Lo : Int) == y43.1.Lo) && true)))) && ((y31.2.1 : Bool) == y43.2)) then (bi (m_lanelaw1_named k) fun y48 => some y48) else (some false)) fun q45 => some q45))

end
end Go.Gk
