/-
  Models of functions.
-/
import Derived.Test.YtfnjahjbpaoepaaGreatDoorMStr3
set_option linter.unusedVariables false
namespace Go.Gk
noncomputable section
structure T_lanemake_Stream where
  L : List Int
  v_at : Int
  deriving DecidableEq
structure T_name_asking where
  name : Str
  kind : Int
  deriving DecidableEq
structure T_api_Addr where
  Six : Bool
  Hi : Int
  Lo : Int
  deriving DecidableEq
structure T_api_Record where
  Name : Str
  Kind : Int
  Addr : T_api_Addr
  To : Str
  Words : Str
  Life : Int
  deriving DecidableEq
structure T_name_kept where
  asking : T_name_asking
  put : Int
  life : Int
  used : Int
  list : List T_api_Record
  deriving DecidableEq
structure T_name_Cache where
  most : Int
  now : Int
  calls : Int
  list : List T_name_kept
  deriving DecidableEq
structure T_laneref1_kept where
  name : Str
  kind : Int
  v_at : Int
  v_end : Int
  l : List T_api_Record
  used : Int
  deriving DecidableEq
structure T_laneref1_Cache where
  most : Int
  now : Int
  calls : Int
  l : List T_laneref1_kept
  deriving DecidableEq


def m_lanemake_Below (x : Int) (n : Int) : Option Int :=
  bif decide ((n : Int) < 1) then (some 0) else (bi (remZ x n) fun y3 => bi (bif decide ((y3 : Int) < 0) then (some (wi (y3 + n))) else (some y3)) fun q5 => some q5)

def m_lanemake_Stream_Next (s : T_lanemake_Stream) (n : Int) : Option (Int × T_lanemake_Stream) :=
  bif ((s.L.length : Int) : Int) == 0 then (bi (m_lanemake_Below (wi ((wi (s.v_at + 1)) * 7919)) n) fun y2 => some (y2, (⟨s.L, wi (s.v_at + 1)⟩ : T_lanemake_Stream))) else (bi (remZ (wi ((wi (s.v_at + 1)) - 1)) (s.L.length : Int)) fun y5 => bi (divZ .i64 (wi ((wi (s.v_at + 1)) - 1)) (s.L.length : Int)) fun y7 => bi (getZ s.L y5) fun x9 => bi (m_lanemake_Below x9 1073741824) fun y11 => bi (m_lanemake_Below (wi (y11 + (wi (y7 * (wi (7919 + y5)))))) n) fun y13 => some (y13, (⟨s.L, wi (s.v_at + 1)⟩ : T_lanemake_Stream)))

def m_lanemake_Stream_Pick (s : T_lanemake_Stream) (l : List Int) : Option (Int × T_lanemake_Stream) :=
  bi (m_lanemake_Stream_Next s (l.length : Int)) fun y1 => bi (getZ l y1.1) fun x3 => some (x3, y1.2)

def m_kit_Outside (n : Int) (low : Int) (high : Int) : Option Bool :=
  some ((decide ((n : Int) < low)) || (decide ((n : Int) > high)))

def m_name_New (most : Int) : Option ((Option T_name_Cache) × Int) :=
  bi (m_kit_Outside most 1 500) fun y1 => bif y1 then (some (none, 1)) else (some (some (⟨most, 0, 0, ([] : List T_name_kept)⟩ : T_name_Cache), 0))

def m_name_isLetter (c : Int) : Option Bool :=
  some (((decide ((c : Int) ≥ 97)) && (decide ((c : Int) ≤ 122))) || ((decide ((c : Int) ≥ 48)) && (decide ((c : Int) ≤ 57))))

def m_name_Label (s : Str) : Option Str :=
  bi (gd (decide ((s.length : Int) ≤ 9223372036854775807)) (rangeG (σ := List Int) (fun i1 s2 => bi (getZ s (i1 : Int)) fun c13 => bi (bif ((decide (((c13.toNat : Int) : Int) ≥ 65)) && (decide (((c13.toNat : Int) : Int) ≤ 90))) then (some (IntKind.u8.wrap ((c13.toNat : Int) + 32))) else (some (c13.toNat : Int))) fun q15 => bi (m_name_isLetter q15) fun y19 => bif y19 then (bi (apd s2 [q15]) fun y22 => some y22) else (bi (bif ((s2.length : Int) : Int) == 0 then (some true) else (bi (getZ s2 (wi ((s2.length : Int) - 1))) fun x29 => some ((x29 : Int) != 45))) fun q25 => bif q25 then (bi (apd s2 [45]) fun y33 => some y33) else (some s2))) (s.length : Int) ([] : List Int))) fun q4 => bi (subZ q4 0 (if 63 < (q4.length : Int) then 63 else (q4.length : Int))) fun z36 => bi (strB z36) fun y38 => bi (m_strings_Trim y38 [45]) fun y40 => bif (y40 : Str) == [] then (some [110, 111, 100, 101]) else (some y40)

def m_name_isLabel : Nat → Str → Option Bool
  | 0, _ => none
  | k + 1, s => bi (m_strings_CutPrefix s [95]) fun y1 => bif y1.2 then (bi (m_strings_HasPrefix y1.1 [95]) fun y4 => bi (bif !y4 then (bi (m_name_isLabel k y1.1) fun y9 => some y9) else (some false)) fun q6 => some (q6 && (decide (((s.length : Int) : Int) ≤ 63)))) else (bi (gd (decide ((s.length : Int) ≤ 9223372036854775807)) (rangeI (σ := Unit) (ρ := Bool) (fun i13 s14 => bi (getZ s (i13 : Int)) fun c25 => bi (m_name_isLetter (c25.toNat : Int)) fun y27 => bi (bif !y27 then (bi (getZ s (i13 : Int)) fun c32 => some (((c32.toNat : Int) : Int) != 45)) else (some false)) fun q29 => bif q29 then (bi (some false) fun v => some (.out v)) else (some (.go ()))) (s.length : Int) ())) fun q => goI q fun a18 => bi (bif ((!((s : Str) == [])) && (decide (((s.length : Int) : Int) ≤ 63))) then (bi (getZ s 0) fun c42 => some (((c42.toNat : Int) : Int) != 45)) else (some false)) fun q39 => bi (bif q39 then (bi (getZ s (wi ((s.length : Int) - 1))) fun c48 => some (((c48.toNat : Int) : Int) != 45)) else (some false)) fun q45 => some q45)

def m_name_CheckDomain (k : Nat) (s : Str) : Option Int :=
  bif decide (((s.length : Int) : Int) > 253) then (some 2) else (bi (m_strings_Split s [46]) fun y3 => bi (rangeM (σ := Unit) (ρ := Int) (fun i5 x7 s6 => bi (m_name_isLabel k x7) fun y16 => bif !y16 then (bi (some 5) fun v => some (.out v)) else (some (.go ()))) 0 y3 ()) fun q => goI q fun a10 => some 0)

def m_lanelaw1_named (k : Nat) : Option Bool :=
  bi (m_name_Label [65, 32, 98]) fun y1 => bi (bif (y1 : Str) == [97, 45, 98] then (bi (m_name_CheckDomain k [97, 46, 46, 98]) fun y6 => some ((y6 : Int) == 5)) else (some false)) fun q3 => some q3

def m_laneref1_NewCache (most : Int) : Option T_laneref1_Cache :=
  some (⟨most, 0, 0, ([] : List T_laneref1_kept)⟩ : T_laneref1_Cache)

def m_lanemake_Stream_Flip (s : T_lanemake_Stream) (n : Int) : Option (Bool × T_lanemake_Stream) :=
  bi (m_lanemake_Stream_Next s n) fun y1 => some ((y1.1 : Int) == 0, y1.2)

def m_lanemake_Stream_Some (s : T_lanemake_Stream) (l : List Str) : Option (Str × T_lanemake_Stream) :=
  bi (m_lanemake_Stream_Next s (l.length : Int)) fun y1 => bi (getZ l y1.1) fun x3 => some (x3, y1.2)

def m_lanemake_Stream_Range (s : T_lanemake_Stream) (low : Int) (high : Int) : Option (Int × T_lanemake_Stream) :=
  bif decide ((high : Int) < low) then (some (low, s)) else (bi (m_lanemake_Stream_Next s (wi ((wi (high - low)) + 1))) fun y3 => some (wi (low + y3.1), y3.2))

def m_lanemake_at (n : Int) : Option T_api_Addr :=
  some (⟨false, 0, IntKind.u64.wrap (1681915904 + (IntKind.u64.wrap (n)))⟩ : T_api_Addr)

def m_lanemake_sixAt (n : Int) : Option T_api_Addr :=
  some (⟨true, 18230571291595767808, IntKind.u64.wrap (n)⟩ : T_api_Addr)

def m_lanemake_Stream_Addr (s : T_lanemake_Stream) : Option (T_api_Addr × T_lanemake_Stream) :=
  bi (m_lanemake_Stream_Next s 6) fun y1 => bif (y1.1 : Int) == 0 then (bi (m_lanemake_Stream_Next y1.2 5) fun y4 => bi (getZ [0, 18230571291595767808, 2306139568115548160, 9223372036854775808, 18446744073709551615] y4.1) fun x6 => bi (m_lanemake_Stream_Next y4.2 5) fun y8 => bi (getZ [0, 1, 2, 4294967296, 18446744073709551615] y8.1) fun x10 => some ((⟨true, x6, x10⟩ : T_api_Addr), y8.2)) else (bif (y1.1 : Int) == 1 then (bi (m_lanemake_Stream_Next y1.2 5) fun y14 => bi (getZ [0, 1, 4294967295, 2130706433, 3232235521] y14.1) fun x16 => some ((⟨false, 0, x16⟩ : T_api_Addr), y14.2)) else (bif (y1.1 : Int) == 2 then (bi (m_lanemake_Stream_Range y1.2 0 16777216) fun y20 => bi (remZ (IntKind.u64.wrap ((IntKind.u64.wrap (y20.1)) * 251)) 4294967296) fun y22 => some ((⟨false, 0, y22⟩ : T_api_Addr), y20.2)) else (bi (m_lanemake_Stream_Range y1.2 0 20) fun y25 => some ((⟨false, 0, IntKind.u64.wrap (167772160 + (IntKind.u64.wrap (y25.1)))⟩ : T_api_Addr), y25.2))))

def m_lanemake_Stream_Raw (s : T_lanemake_Stream) : Option (T_api_Addr × T_lanemake_Stream) :=
  bi (m_lanemake_Stream_Addr s) fun y1 => bi (m_lanemake_Stream_Flip y1.2 15) fun y3 => bif y3.1 then (bi (m_lanemake_Stream_Next y3.2 2) fun y6 => bi (m_lanemake_Stream_Next y6.2 3) fun y8 => bi (getZ [4294967296, 5, 1099511627776] y8.1) fun x10 => some ((⟨false, IntKind.u64.wrap (y6.1), x10⟩ : T_api_Addr), y8.2)) else (some (y1.1, y3.2))

def m_lanemake_Stream_Odd (s : T_lanemake_Stream) (low : Int) (high : Int) : Option (Int × T_lanemake_Stream) :=
  bi (m_lanemake_Stream_Flip s 12) fun y1 => bif y1.1 then (bi (m_lanemake_Stream_Pick y1.2 [wi (low - 1), wi (high + 1), low, high, -1099511627776, 1099511627776]) fun y4 => some (y4.1, y4.2)) else (bi (m_lanemake_Stream_Range y1.2 low high) fun y7 => some (y7.1, y7.2))

def m_lanemake_Stream_record (s : T_lanemake_Stream) (name : Str) : Option (T_api_Record × T_lanemake_Stream) :=
  bi (m_lanemake_Stream_Pick s [0, 5, 60, 1000000]) fun y1 => bi (m_lanemake_Stream_Next y1.2 7) fun y3 => bi (bi (bif (y3.1 : Int) == 0 then (some ((y3.1 : Int) == 0)) else (some ((y3.1 : Int) == 1))) fun q7 => bif q7 then (bi (m_lanemake_Stream_Range y3.2 1 3) fun y12 => bi (m_lanemake_at y12.1) fun y14 => some (y12.2, (⟨name, 1, y14, [], [], y1.1⟩ : T_api_Record))) else (bif (y3.1 : Int) == 2 then (bi (m_lanemake_Stream_Range y3.2 1 3) fun y18 => bi (m_lanemake_sixAt y18.1) fun y20 => some (y18.2, (⟨name, 28, y20, [], [], y1.1⟩ : T_api_Record))) else (bif (y3.1 : Int) == 3 then (bi (m_lanemake_Stream_Some y3.2 [[], [104, 105], [97, 32, 98], [118, 61, 49]]) fun y24 => some (y24.2, (⟨name, 16, (⟨false, 0, 0⟩ : T_api_Addr), [], y24.1, y1.1⟩ : T_api_Record))) else (bif (y3.1 : Int) == 4 then (bi (m_lanemake_Stream_Some y3.2 [[97, 46, 110, 101, 116, 46, 120], [98, 46, 110, 101, 116, 46, 120]]) fun y28 => some (y28.2, (⟨name, 12, (⟨false, 0, 0⟩ : T_api_Addr), y28.1, [], y1.1⟩ : T_api_Record))) else (bi (m_lanemake_Stream_Some y3.2 [[97, 46, 110, 101, 116, 46, 120], [98, 46, 110, 101, 116, 46, 120], [99, 46, 110, 101, 116, 46, 120], [113, 46, 108, 97, 98, 46, 110, 101, 116, 46, 120], [100, 46, 110, 101, 116, 46, 120], [111, 116, 104, 101, 114]]) fun y31 => some (y31.2, (⟨name, 5, (⟨false, 0, 0⟩ : T_api_Addr), y31.1, [], y1.1⟩ : T_api_Record))))))) fun q5 => bi (m_lanemake_Stream_Flip q5.1 40) fun y33 => bi (bif y33.1 then (bi (m_lanemake_Stream_Next y33.2 4) fun y38 => bif (y38.1 : Int) == 0 then (bi (m_lanemake_Stream_Pick y38.2 [0, 2, 5]) fun y41 => some (y41.2, (⟨q5.2.Name, y41.1, q5.2.Addr, q5.2.To, q5.2.Words, q5.2.Life⟩ : T_api_Record))) else (bif (y38.1 : Int) == 1 then (bi (m_lanemake_Stream_Raw y38.2) fun y45 => some (y45.2, (⟨q5.2.Name, q5.2.Kind, y45.1, q5.2.To, q5.2.Words, q5.2.Life⟩ : T_api_Record))) else (bif (y38.1 : Int) == 2 then (bi (m_lanemake_Stream_Some y38.2 [[], [65], [120]]) fun y49 => some (y49.2, (⟨q5.2.Name, q5.2.Kind, q5.2.Addr, y49.1, q5.2.Words, q5.2.Life⟩ : T_api_Record))) else (bi (m_lanemake_Stream_Some y38.2 [[32, 120], [97, 10, 98], [], [121]]) fun y52 => bi (m_lanemake_Stream_Odd y52.2 0 1000000) fun y54 => some (y54.2, (⟨q5.2.Name, q5.2.Kind, q5.2.Addr, q5.2.To, y52.1, y54.1⟩ : T_api_Record)))))) else (some (y33.2, q5.2))) fun q35 => some (q35.2, q35.1)

def m_lanemake_Stream_Records (s : T_lanemake_Stream) (many : Int) : Option ((List T_api_Record) × T_lanemake_Stream) :=
  bi (gd (decide (many ≤ 9223372036854775807)) (rangeG (σ := T_lanemake_Stream × (List T_api_Record)) (fun i1 s2 => bi (m_lanemake_Stream_Some s2.1 [[97, 46, 110, 101, 116, 46, 120], [98, 46, 110, 101, 116, 46, 120], [99, 46, 110, 101, 116, 46, 120], [120, 46, 121]]) fun y13 => bi (m_lanemake_Stream_record y13.2 y13.1) fun y15 => bi (apd s2.2 [y15.1]) fun y17 => some (y15.2, y17)) many (s, ([] : List T_api_Record)))) fun q4 => some (q4.2, q4.1)

def m_kit_IsMoment (n : Int) : Option Bool :=
  some ((decide ((n : Int) ≥ 0)) && (decide ((n : Int) < 345686400)))

def m_name_Cache_timeFault (c : T_name_Cache) (v_at : Int) : Option Int :=
  bi (m_kit_IsMoment v_at) fun y1 => bif !y1 then (some 1) else (bif decide ((v_at : Int) < c.now) then (some 7) else (some 0))

def m_name_isKind (kind : Int) : Option Bool :=
  bi (bif (kind : Int) == 1 then (some ((kind : Int) == 1)) else (bif (kind : Int) == 5 then (some ((kind : Int) == 5)) else (bif (kind : Int) == 12 then (some ((kind : Int) == 12)) else (bif (kind : Int) == 16 then (some ((kind : Int) == 16)) else (some ((kind : Int) == 28)))))) fun q1 => bif q1 then (some true) else (some false)

def m_name_Cache_nameFault (k : Nat) (c : T_name_Cache) (v_at : Int) (name : Str) (kind : Int) : Option Int :=
  bi (m_name_Cache_timeFault c v_at) fun y1 => bif (y1 : Int) != 0 then (some y1) else (bi (m_name_CheckDomain k name) fun y5 => bif (y5 : Int) != 0 then (some y5) else (bi (m_name_isKind kind) fun y9 => bif !y9 then (some 4) else (some 0)))

def m_name_bare (name : Str) : Option Str :=
  bi (m_strings_TrimPrefix name [42, 46]) fun y1 => some y1

def m_name_hasAddr (kind : Int) : Option Bool :=
  some (((kind : Int) == 1) || ((kind : Int) == 28))

def m_addr_CheckAddr (a : T_api_Addr) : Option Int :=
  bif ((!a.Six) && (((a.Hi : Int) != 0) || (decide ((a.Lo : Int) ≥ 4294967296)))) then (some 3) else (some 0)

def m_name_hasName (kind : Int) : Option Bool :=
  some (((kind : Int) == 5) || ((kind : Int) == 12))

def m_kit_IsPlain (k : Nat) (s : Str) : Option Bool :=
  bi (loopM (σ := Int) (ρ := Unit ⊕ Bool) (fun s2 => bif decide ((s2 : Int) < (s.length : Int)) then (bi (getZ s s2) fun c12 => bi (bif decide (((c12.toNat : Int) : Int) < 32) then (some true) else (bi (getZ s s2) fun c18 => some (((c18.toNat : Int) : Int) == 127))) fun q14 => bif q14 then (bi (some false) fun v => some (.out (.inr v))) else (some (.go (wi (s2 + 1))))) else (some (.out (.inl ())))) k 0) fun q => orI q fun a6 => bi (m_utf8_ValidString s) fun y25 => bi (bif y25 then (bi (m_strings_Trim s [32]) fun y30 => some ((y30 : Str) == s)) else (some false)) fun q27 => bi (bif q27 then (bi (m_strings_Contains s [32, 32]) fun y36 => some (!y36)) else (some false)) fun q33 => some q33

def m_name_recordFault (k : Nat) (v_r : T_api_Record) : Option Int :=
  bi (m_name_bare v_r.Name) fun y1 => bi (m_name_CheckDomain k y1) fun y3 => bif (((y3 : Int) != 0) || (decide (((v_r.Name.length : Int) : Int) > 253))) then (some 5) else (bi (m_name_isKind v_r.Kind) fun y7 => bif !y7 then (some 4) else (bi (m_name_hasAddr v_r.Kind) fun y11 => bi (bif y11 then (bi (bif !((v_r.Addr.Six : Bool) == ((v_r.Kind : Int) == 28)) then (some true) else (bi (m_addr_CheckAddr v_r.Addr) fun y20 => some ((y20 : Int) != 0))) fun q16 => some q16) else (some false)) fun q13 => bif q13 then (some 3) else (bi (m_name_hasAddr v_r.Kind) fun y25 => bif ((!y25) && (!(((v_r.Addr.Six : Bool) == false) && (((v_r.Addr.Hi : Int) == 0) && (((v_r.Addr.Lo : Int) == 0) && true))))) then (some 3) else (bi (m_name_hasName v_r.Kind) fun y29 => bi (bif y29 then (bi (m_name_CheckDomain k v_r.To) fun y34 => some ((y34 : Int) != 0)) else (some false)) fun q31 => bif q31 then (some 5) else (bi (m_name_hasName v_r.Kind) fun y39 => bif ((!y39) && (!((v_r.To : Str) == []))) then (some 3) else (bi (bif (v_r.Kind : Int) == 16 then (bi (m_kit_IsPlain k v_r.Words) fun y46 => some ((!y46) || (decide (((v_r.Words.length : Int) : Int) > 200)))) else (some false)) fun q43 => bif (q43 || (((v_r.Kind : Int) != 16) && (!((v_r.Words : Str) == [])))) then (some 3) else (bi (m_kit_Outside v_r.Life 0 1000000) fun y51 => bif y51 then (some 1) else (some 0))))))))

def m_name_Cache_pass_1 (v_k : T_name_kept) (x : Int) : Option Bool :=
  some (decide ((wi (x - v_k.put) : Int) ≥ v_k.life))

def m_slices_IndexFunc_name_kept_name_kept (s : List T_name_kept) (f : Int) : Option Int :=
  bi (gd (decide ((s.length : Int) ≤ 9223372036854775807)) (rangeI (σ := Unit) (ρ := Int) (fun i1 s2 => bi (getZ s (i1 : Int)) fun x13 => bi (m_name_Cache_pass_1 x13 f) fun y16 => bif y16 then (bi (some (i1 : Int)) fun v => some (.out v)) else (some (.go ()))) (s.length : Int) ())) fun q => goI q fun a6 => some (-1)

def m_slices_DeleteFunc_name_kept_name_kept (k : Nat) (s : List T_name_kept) (f : Int) : Option (List T_name_kept) :=
  bi (m_slices_IndexFunc_name_kept_name_kept s f) fun y1 => bif (y1 : Int) == (-1) then (some s) else (bi (loopM (σ := (List T_name_kept) × Int × Int) (ρ := (List T_name_kept) × Int) (fun s6 => bif decide ((s6.2.2 : Int) < (s6.1.length : Int)) then (bi (getZ s6.1 s6.2.2) fun x16 => bi (m_name_Cache_pass_1 x16 f) fun y19 => bif !y19 then (bi (getZ s6.1 s6.2.1) fun x22 => some (.go (s6.1.set s6.2.1.toNat x16, wi (s6.2.1 + 1), wi (s6.2.2 + 1)))) else (some (.go (s6.1, s6.2.1, wi (s6.2.2 + 1))))) else (some (.out (s6.1, s6.2.1)))) k (s, y1, wi (y1 + 1))) fun q8 => bi (subZ q8.1 q8.2 (q8.1.length : Int)) fun z27 => some (q8.1.take q8.2.toNat))

def m_name_Cache_pass (k : Nat) (c : T_name_Cache) (v_at : Int) : Option T_name_Cache :=
  bi (m_slices_DeleteFunc_name_kept_name_kept k c.list v_at) fun y1 => some (⟨c.most, v_at, wi (c.calls + 1), y1⟩ : T_name_Cache)

def m_name_Cache_Put_1 (v_k : T_name_kept) (x : T_name_asking) : Option Bool :=
  some (((v_k.asking.name : Str) == x.name) && (((v_k.asking.kind : Int) == x.kind) && true))

def m_slices_IndexFunc_name_kept_name_kept_2 (s : List T_name_kept) (f : T_name_asking) : Option Int :=
  bi (gd (decide ((s.length : Int) ≤ 9223372036854775807)) (rangeI (σ := Unit) (ρ := Int) (fun i1 s2 => bi (getZ s (i1 : Int)) fun x13 => bi (m_name_Cache_Put_1 x13 f) fun y16 => bif y16 then (bi (some (i1 : Int)) fun v => some (.out v)) else (some (.go ()))) (s.length : Int) ())) fun q => goI q fun a6 => some (-1)

def m_slices_DeleteFunc_name_kept_name_kept_2 (k : Nat) (s : List T_name_kept) (f : T_name_asking) : Option (List T_name_kept) :=
  bi (m_slices_IndexFunc_name_kept_name_kept_2 s f) fun y1 => bif (y1 : Int) == (-1) then (some s) else (bi (loopM (σ := (List T_name_kept) × Int × Int) (ρ := (List T_name_kept) × Int) (fun s6 => bif decide ((s6.2.2 : Int) < (s6.1.length : Int)) then (bi (getZ s6.1 s6.2.2) fun x16 => bi (m_name_Cache_Put_1 x16 f) fun y19 => bif !y19 then (bi (getZ s6.1 s6.2.1) fun x22 => some (.go (s6.1.set s6.2.1.toNat x16, wi (s6.2.1 + 1), wi (s6.2.2 + 1)))) else (some (.go (s6.1, s6.2.1, wi (s6.2.2 + 1))))) else (some (.out (s6.1, s6.2.1)))) k (s, y1, wi (y1 + 1))) fun q8 => bi (subZ q8.1 q8.2 (q8.1.length : Int)) fun z27 => some (q8.1.take q8.2.toNat))

def m_slices_Clone_api_Record_api_Record (s : List T_api_Record) : Option (List T_api_Record) :=
  bi (apd ([] : List T_api_Record) s) fun y1 => some y1

def m_slices_Delete_name_kept_name_kept (s : List T_name_kept) (i : Int) (j : Int) : Option (List T_name_kept) :=
  bi (subZ s i j) fun z1 => bif (i : Int) == j then (some s) else (bi (subZ s 0 i) fun z5 => bi (subZ s j (s.length : Int)) fun z7 => some (z5 ++ z7))

def m_name_Cache_Put (k : Nat) (c : T_name_Cache) (v_at : Int) (name : Str) (kind : Int) (l : List T_api_Record) (life : Int) : Option (Int × T_name_Cache) :=
  bi (m_name_Cache_nameFault k c v_at name kind) fun y1 => bif (y1 : Int) != 0 then (some (y1, c)) else (bif decide (((l.length : Int) : Int) > 50) then (some (2, c)) else (bi (rangeM (σ := Unit) (ρ := Int × T_name_Cache) (fun i7 x9 s8 => bi (m_name_recordFault k x9) fun y18 => bif (y18 : Int) != 0 then (bi (some (y18, c)) fun v => some (.out v)) else (some (.go ()))) 0 l ()) fun q => goI q fun a12 => bi (m_kit_Outside life 0 1000000) fun y24 => bif y24 then (some (1, c)) else (bi (m_name_Cache_pass k c v_at) fun y28 => bi (rangeF (σ := Int) (fun i30 x32 s31 => some (if x32.Life < s31 then x32.Life else s31)) 0 l life) fun q33 => bi (m_slices_DeleteFunc_name_kept_name_kept_2 k y28.list (⟨name, kind⟩ : T_name_asking)) fun y41 => bif (q33 : Int) == 0 then (some (0, (⟨y28.most, y28.now, y28.calls, y41⟩ : T_name_Cache))) else (bi (m_slices_Clone_api_Record_api_Record l) fun y45 => bi (apd y41 [(⟨(⟨name, kind⟩ : T_name_asking), v_at, q33, y28.calls, y45⟩ : T_name_kept)]) fun y47 => bi (bif decide (((y47.length : Int) : Int) > y28.most) then (bi (gd (decide ((y47.length : Int) ≤ 9223372036854775807)) (rangeG (σ := Int) (fun i52 s53 => bi (getZ y47 (i52 : Int)) fun x64 => bi (getZ y47 s53) fun x67 => bif decide ((x64.used : Int) < x67.used) then (some (i52 : Int)) else (some s53)) (y47.length : Int) 0)) fun q55 => bi (m_slices_Delete_name_kept_name_kept y47 q55 (wi (q55 + 1))) fun y72 => some y72) else (some y47)) fun q49 => some (0, (⟨y28.most, y28.now, y28.calls, q49⟩ : T_name_Cache))))))

def m_laneref2_in (n : Int) (low : Int) (high : Int) : Option Bool :=
  some ((decide ((low : Int) ≤ n)) && (decide ((n : Int) ≤ high)))

def m_laneref2_Moment (v_at : Int) : Option Bool :=
  bi (m_laneref2_in v_at 0 345686399) fun y1 => some y1

def m_laneref1_LabelForm (s : Str) : Option Bool :=
  bif decide (((s.length : Int) : Int) > 63) then (some false) else (bi (m_strings_TrimPrefix s [95]) fun y3 => bi (bif !((y3 : Str) == []) then (bi (m_strings_Trim y3 [97, 98, 99, 100, 101, 102, 103, 104, 105, 106, 107, 108, 109, 110, 111, 112, 113, 114, 115, 116, 117, 118, 119, 120, 121, 122, 48, 49, 50, 51, 52, 53, 54, 55, 56, 57, 45]) fun y8 => some ((y8 : Str) == [])) else (some false)) fun q5 => bi (bif q5 then (bi (getZ y3 0) fun c14 => some (((c14.toNat : Int) : Int) != 45)) else (some false)) fun q11 => bi (bif q11 then (bi (getZ y3 (wi ((y3.length : Int) - 1))) fun c20 => some (((c20.toNat : Int) : Int) != 45)) else (some false)) fun q17 => some q17)

def m_laneref1_DomainFault (s : Str) : Option Int :=
  bif decide (((s.length : Int) : Int) > 253) then (some 2) else (bi (m_strings_Split s [46]) fun y3 => bi (rangeM (σ := Unit) (ρ := Int) (fun i5 x7 s6 => bi (m_laneref1_LabelForm x7) fun y16 => bif !y16 then (bi (some 5) fun v => some (.out v)) else (some (.go ()))) 0 y3 ()) fun q => goI q fun a10 => some 0)

def m_laneref1_Cache_callFault (c : T_laneref1_Cache) (v_at : Int) (name : Str) : Option Int :=
  bi (m_laneref2_Moment v_at) fun y1 => bif !y1 then (some 1) else (bif decide ((v_at : Int) < c.now) then (some 7) else (bi (m_laneref1_DomainFault name) fun y7 => some y7))

def m_laneref1_Kinds  : Option (List Int) :=
  some [1, 5, 12, 16, 28]

def m_slices_Index_int_int (s : List Int) (v : Int) : Option Int :=
  bi (rangeM (σ := Unit) (ρ := Int) (fun i1 x3 s2 => bif (v : Int) == x3 then (bi (some (i1 : Int)) fun v => some (.out v)) else (some (.go ()))) 0 s ()) fun q => goI q fun a6 => some (-1)

def m_slices_Contains_int_int (s : List Int) (v : Int) : Option Bool :=
  bi (m_slices_Index_int_int s v) fun y1 => some (decide ((y1 : Int) ≥ 0))

def m_laneref2_AddrFault (a : T_api_Addr) : Option Int :=
  bif ((!a.Six) && ((decide ((a.Hi : Int) > 0)) || (decide ((a.Lo : Int) > 4294967295)))) then (some 3) else (some 0)

def m_laneref1_plain (s : Str) : Option Bool :=
  bi (gd (decide ((s.length : Int) ≤ 9223372036854775807)) (rangeI (σ := Unit) (ρ := Bool) (fun i1 s2 => bi (getZ s (i1 : Int)) fun c13 => bi (bif decide (((c13.toNat : Int) : Int) < 32) then (some true) else (bi (getZ s (i1 : Int)) fun c19 => some (((c19.toNat : Int) : Int) == 127))) fun q15 => bif q15 then (bi (some false) fun v => some (.out v)) else (some (.go ()))) (s.length : Int) ())) fun q => goI q fun a6 => bi (m_utf8_ValidString s) fun y25 => bi (bif y25 then (bi (m_strings_Trim s [32]) fun y30 => some ((s : Str) == y30)) else (some false)) fun q27 => bi (bif q27 then (bi (m_strings_Contains s [32, 32]) fun y36 => some (!y36)) else (some false)) fun q33 => some q33

def m_laneref1_in (n : Int) (low : Int) (high : Int) : Option Bool :=
  some ((decide ((low : Int) ≤ n)) && (decide ((n : Int) ≤ high)))

def m_laneref1_RecordFault (v_r : T_api_Record) : Option Int :=
  bi (bif decide (((v_r.Name.length : Int) : Int) > 253) then (some true) else (bi (m_strings_TrimPrefix v_r.Name [42, 46]) fun y5 => bi (m_laneref1_DomainFault y5) fun y7 => some ((y7 : Int) != 0))) fun q1 => bif q1 then (some 5) else (bi m_laneref1_Kinds fun y11 => bi (m_slices_Contains_int_int y11 v_r.Kind) fun y13 => bif !y13 then (some 4) else (bi (bif (v_r.Kind : Int) == 1 then (some true) else (some ((v_r.Kind : Int) == 28))) fun q17 => bi (bif q17 then (bi (m_laneref2_AddrFault v_r.Addr) fun y24 => some (((y24 : Int) != 0) || (!((v_r.Addr.Six : Bool) == ((v_r.Kind : Int) == 28))))) else (some false)) fun q21 => bif (q21 || ((!q17) && (!(((v_r.Addr.Six : Bool) == false) && (((v_r.Addr.Hi : Int) == 0) && (((v_r.Addr.Lo : Int) == 0) && true)))))) then (some 3) else (bi (bif (((v_r.Kind : Int) == 5) || ((v_r.Kind : Int) == 12)) then (bi (m_laneref1_DomainFault v_r.To) fun y33 => bif (y33 : Int) != 0 then (bi (some 5) fun v => some (.inr v)) else (some (.inl ()))) else (bif !((v_r.To : Str) == []) then (bi (some 3) fun v => some (.inr v)) else (some (.inl ()))) : Option (Unit ⊕ Int)) fun q => orI q fun a31 => bi (bif (((v_r.Kind : Int) != 16) && (!((v_r.Words : Str) == []))) then (some true) else (bi (m_laneref1_plain v_r.Words) fun y48 => some (!y48))) fun q44 => bif (q44 || (decide (((v_r.Words.length : Int) : Int) > 200))) then (some 3) else (bi (m_laneref1_in v_r.Life 0 1000000) fun y52 => bif !y52 then (some 1) else (some 0)))))

def m_laneref1_Cache_drop_1 (v_k : T_laneref1_kept) (x : Int) : Option Bool :=
  some (decide ((x : Int) ≥ v_k.v_end))

def m_slices_IndexFunc_laneref1_kept_laneref1_kept (s : List T_laneref1_kept) (f : Int) : Option Int :=
  bi (gd (decide ((s.length : Int) ≤ 9223372036854775807)) (rangeI (σ := Unit) (ρ := Int) (fun i1 s2 => bi (getZ s (i1 : Int)) fun x13 => bi (m_laneref1_Cache_drop_1 x13 f) fun y16 => bif y16 then (bi (some (i1 : Int)) fun v => some (.out v)) else (some (.go ()))) (s.length : Int) ())) fun q => goI q fun a6 => some (-1)

def m_slices_DeleteFunc_laneref1_kept_laneref1_kept (k : Nat) (s : List T_laneref1_kept) (f : Int) : Option (List T_laneref1_kept) :=
  bi (m_slices_IndexFunc_laneref1_kept_laneref1_kept s f) fun y1 => bif (y1 : Int) == (-1) then (some s) else (bi (loopM (σ := (List T_laneref1_kept) × Int × Int) (ρ := (List T_laneref1_kept) × Int) (fun s6 => bif decide ((s6.2.2 : Int) < (s6.1.length : Int)) then (bi (getZ s6.1 s6.2.2) fun x16 => bi (m_laneref1_Cache_drop_1 x16 f) fun y19 => bif !y19 then (bi (getZ s6.1 s6.2.1) fun x22 => some (.go (s6.1.set s6.2.1.toNat x16, wi (s6.2.1 + 1), wi (s6.2.2 + 1)))) else (some (.go (s6.1, s6.2.1, wi (s6.2.2 + 1))))) else (some (.out (s6.1, s6.2.1)))) k (s, y1, wi (y1 + 1))) fun q8 => bi (subZ q8.1 q8.2 (q8.1.length : Int)) fun z27 => some (q8.1.take q8.2.toNat))

def m_laneref1_Cache_drop (k : Nat) (c : T_laneref1_Cache) (v_at : Int) : Option T_laneref1_Cache :=
  bi (m_slices_DeleteFunc_laneref1_kept_laneref1_kept k c.l v_at) fun y1 => some (⟨c.most, v_at, wi (c.calls + 1), y1⟩ : T_laneref1_Cache)

def m_laneref1_Cache_Put_1 (v_k : T_laneref1_kept) (x : Str) (x2 : Int) : Option Bool :=
  some (((v_k.name : Str) == x) && ((v_k.kind : Int) == x2))

def m_slices_IndexFunc_laneref1_kept_laneref1_kept_2 (s : List T_laneref1_kept) (f : Str) (f2 : Int) : Option Int :=
  bi (gd (decide ((s.length : Int) ≤ 9223372036854775807)) (rangeI (σ := Unit) (ρ := Int) (fun i1 s2 => bi (getZ s (i1 : Int)) fun x13 => bi (m_laneref1_Cache_Put_1 x13 f f2) fun y16 => bif y16 then (bi (some (i1 : Int)) fun v => some (.out v)) else (some (.go ()))) (s.length : Int) ())) fun q => goI q fun a6 => some (-1)

def m_slices_DeleteFunc_laneref1_kept_laneref1_kept_2 (k : Nat) (s : List T_laneref1_kept) (f : Str) (f2 : Int) : Option (List T_laneref1_kept) :=
  bi (m_slices_IndexFunc_laneref1_kept_laneref1_kept_2 s f f2) fun y1 => bif (y1 : Int) == (-1) then (some s) else (bi (loopM (σ := (List T_laneref1_kept) × Int × Int) (ρ := (List T_laneref1_kept) × Int) (fun s6 => bif decide ((s6.2.2 : Int) < (s6.1.length : Int)) then (bi (getZ s6.1 s6.2.2) fun x16 => bi (m_laneref1_Cache_Put_1 x16 f f2) fun y19 => bif !y19 then (bi (getZ s6.1 s6.2.1) fun x22 => some (.go (s6.1.set s6.2.1.toNat x16, wi (s6.2.1 + 1), wi (s6.2.2 + 1)))) else (some (.go (s6.1, s6.2.1, wi (s6.2.2 + 1))))) else (some (.out (s6.1, s6.2.1)))) k (s, y1, wi (y1 + 1))) fun q8 => bi (subZ q8.1 q8.2 (q8.1.length : Int)) fun z27 => some (q8.1.take q8.2.toNat))

def m_math_bits_Len64 (x : Int) : Option Int :=
  bi (bif decide ((x : Int) ≥ 4294967296) then (some (shrV .u64 x 32, 32)) else (some (x, 0))) fun q1 => bi (bif decide ((q1.1 : Int) ≥ 65536) then (some (shrV .u64 q1.1 16, wi (q1.2 + 16))) else (some (q1.1, q1.2))) fun q5 => bi (bif decide ((q5.1 : Int) ≥ 256) then (some (shrV .u64 q5.1 8, wi (q5.2 + 8))) else (some (q5.1, q5.2))) fun q9 => bi (getZ ([0, 1, 2, 2, 3, 3, 3, 3, 4, 4, 4, 4, 4, 4, 4, 4, 5, 5, 5, 5, 5, 5, 5, 5, 5, 5, 5, 5, 5, 5, 5, 5, 6, 6, 6, 6, 6, 6, 6, 6, 6, 6, 6, 6, 6, 6, 6, 6, 6, 6, 6, 6, 6, 6, 6, 6, 6, 6, 6, 6, 6, 6, 6, 6, 7, 7, 7, 7, 7, 7, 7, 7, 7, 7, 7, 7, 7, 7, 7, 7, 7, 7, 7, 7, 7, 7, 7, 7, 7, 7, 7, 7, 7, 7, 7, 7, 7, 7, 7, 7, 7, 7, 7, 7, 7, 7, 7, 7, 7, 7, 7, 7, 7, 7, 7, 7, 7, 7, 7, 7, 7, 7, 7, 7, 7, 7, 7, 7, 8, 8, 8, 8, 8, 8, 8, 8, 8, 8, 8, 8, 8, 8, 8, 8, 8, 8, 8, 8, 8, 8, 8, 8, 8, 8, 8, 8, 8, 8, 8, 8, 8, 8, 8, 8, 8, 8, 8, 8, 8, 8, 8, 8, 8, 8, 8, 8, 8, 8, 8, 8, 8, 8, 8, 8, 8, 8, 8, 8, 8, 8, 8, 8, 8, 8, 8, 8, 8, 8, 8, 8, 8, 8, 8, 8, 8, 8, 8, 8, 8, 8, 8, 8, 8, 8, 8, 8, 8, 8, 8, 8, 8, 8, 8, 8, 8, 8, 8, 8, 8, 8, 8, 8, 8, 8, 8, 8, 8, 8, 8, 8, 8, 8, 8, 8, 8, 8, 8, 8, 8, 8, 8, 8, 8, 8, 8, 8] : Str) (IntKind.u8.wrap (q9.1))) fun c13 => some (wi (q9.2 + (wi ((c13.toNat : Int)))))

def m_math_bits_Len (x : Int) : Option Int :=
  bi (m_math_bits_Len64 x) fun y1 => some y1

def m_cmp_isNaN_int (x : Int) : Option Bool :=
  some ((x : Int) != x)

def m_cmp_Compare_int (x : Int) (y : Int) : Option Int :=
  bi (m_cmp_isNaN_int x) fun y1 => bi (m_cmp_isNaN_int y) fun y3 => bif y1 then (bif y3 then (some 0) else (some (-1))) else (bif y3 then (some 1) else (bif decide ((x : Int) < y) then (some (-1)) else (bif decide ((x : Int) > y) then (some 1) else (some 0))))

def m_laneref1_Cache_Put_2 (a : T_laneref1_kept) (b : T_laneref1_kept) : Option Int :=
  bi (m_cmp_Compare_int a.used b.used) fun y1 => some y1

def m_slices_insertionSortCmpFunc_laneref1_kept (k : Nat) (data : List T_laneref1_kept) (a : Int) (b : Int) : Option (List T_laneref1_kept) :=
  bi (loopM (σ := (List T_laneref1_kept) × Int) (ρ := List T_laneref1_kept) (fun s2 => bif decide ((s2.2 : Int) < b) then (bi (loopM (σ := (List T_laneref1_kept) × Int) (ρ := List T_laneref1_kept) (fun s13 => bi (bif decide ((s13.2 : Int) > a) then (bi (getZ s13.1 s13.2) fun x25 => bi (getZ s13.1 (wi (s13.2 - 1))) fun x28 => bi (m_laneref1_Cache_Put_2 x25 x28) fun y31 => some (decide ((y31 : Int) < 0))) else (some false)) fun q22 => bif q22 then (bi (getZ s13.1 (wi (s13.2 - 1))) fun x35 => bi (getZ s13.1 s13.2) fun x38 => bi (getZ s13.1 s13.2) fun x41 => bi (getZ s13.1 (wi (s13.2 - 1))) fun x44 => bi (getZ (s13.1.set s13.2.toNat x35) (((wi (s13.2 - 1)).toNat : Nat) : Int)) fun x47 => some (.go ((s13.1.set s13.2.toNat x35).set ((wi (s13.2 - 1)).toNat) x38, wi (s13.2 - 1)))) else (some (.out s13.1))) k (s2.1, s2.2)) fun q15 => some (.go (q15, wi (s2.2 + 1)))) else (some (.out s2.1))) k (data, wi (a + 1))) fun q4 => some q4

def m_slices_pdqsortCmpFunc_laneref1_kept (k : Nat) (data : List T_laneref1_kept) (a : Int) (b : Int) (limit : Int) : Option (List T_laneref1_kept) :=
  bi (loopM (σ := Unit) (ρ := List T_laneref1_kept) (fun s2 => bif decide ((wi (b - a) : Int) ≤ 12) then (bi (m_slices_insertionSortCmpFunc_laneref1_kept k data a b) fun y12 => bi (some y12) fun v => some (.out v)) else (bif (limit : Int) == 0 then none else none)) k ()) fun v => some v

def m_slices_SortFunc_laneref1_kept_laneref1_kept (k : Nat) (x : List T_laneref1_kept) : Option (List T_laneref1_kept) :=
  bi (m_math_bits_Len (IntKind.u64.wrap ((x.length : Int)))) fun y1 => bi (m_slices_pdqsortCmpFunc_laneref1_kept k x 0 (x.length : Int) y1) fun y3 => some y3

def m_laneref1_Cache_Put (k : Nat) (c : T_laneref1_Cache) (v_at : Int) (name : Str) (kind : Int) (l : List T_api_Record) (life : Int) : Option (Int × T_laneref1_Cache) :=
  bi (m_laneref1_Cache_callFault c v_at name) fun y1 => bif (y1 : Int) != 0 then (some (y1, c)) else (bi m_laneref1_Kinds fun y5 => bi (m_slices_Contains_int_int y5 kind) fun y7 => bif !y7 then (some (4, c)) else (bif decide (((l.length : Int) : Int) > 50) then (some (2, c)) else (bi (rangeM (σ := Unit) (ρ := Int × T_laneref1_Cache) (fun i13 x15 s14 => bi (m_laneref1_RecordFault x15) fun y24 => bif (y24 : Int) != 0 then (bi (some (y24, c)) fun v => some (.out v)) else (some (.go ()))) 0 l ()) fun q => goI q fun a18 => bi (m_laneref1_in life 0 1000000) fun y30 => bif !y30 then (some (1, c)) else (bi (m_laneref1_Cache_drop k c v_at) fun y34 => bi (m_slices_DeleteFunc_laneref1_kept_laneref1_kept_2 k y34.l name kind) fun y36 => bi (rangeF (σ := Int) (fun i38 x40 s39 => some (if x40.Life < s39 then x40.Life else s39)) 0 l life) fun q41 => bif (q41 : Int) == 0 then (some (0, (⟨y34.most, y34.now, y34.calls, y36⟩ : T_laneref1_Cache))) else (bi (m_slices_Clone_api_Record_api_Record l) fun y51 => bi (apd y36 [(⟨name, kind, v_at, wi (v_at + q41), y51, y34.calls⟩ : T_laneref1_kept)]) fun y53 => bi (bif decide (((y53.length : Int) : Int) > y34.most) then (bi (m_slices_SortFunc_laneref1_kept_laneref1_kept k y53) fun y58 => gd (decide (y58.length = y53.length)) (bi (subZ y58 1 (y58.length : Int)) fun z62 => some z62)) else (some y53)) fun q55 => some (0, (⟨y34.most, y34.now, y34.calls, q55⟩ : T_laneref1_Cache)))))))

def m_name_Cache_Get_1 (v_k : T_name_kept) (x : Str) (x2 : Int) : Option Bool :=
  some (((v_k.asking.name : Str) == x) && (((v_k.asking.kind : Int) == x2) && true))

def m_slices_IndexFunc_name_kept_name_kept_3 (s : List T_name_kept) (f : Str) (f2 : Int) : Option Int :=
  bi (gd (decide ((s.length : Int) ≤ 9223372036854775807)) (rangeI (σ := Unit) (ρ := Int) (fun i1 s2 => bi (getZ s (i1 : Int)) fun x13 => bi (m_name_Cache_Get_1 x13 f f2) fun y16 => bif y16 then (bi (some (i1 : Int)) fun v => some (.out v)) else (some (.go ()))) (s.length : Int) ())) fun q => goI q fun a6 => some (-1)

def m_name_Cache_Get (k : Nat) (c : T_name_Cache) (v_at : Int) (name : Str) (kind : Int) : Option ((List T_api_Record) × Bool × Int × T_name_Cache) :=
  bi (m_name_Cache_nameFault k c v_at name kind) fun y1 => bif (y1 : Int) != 0 then (some ([], false, y1, c)) else (bi (m_name_Cache_pass k c v_at) fun y5 => bi (m_slices_IndexFunc_name_kept_name_kept_3 y5.list name kind) fun y7 => bif decide ((y7 : Int) < 0) then (some ([], false, 0, y5)) else (bi (getZ y5.list y7) fun x11 => bi (m_slices_Clone_api_Record_api_Record ((⟨x11.asking, x11.put, x11.life, y5.calls, x11.list⟩ : T_name_kept).list)) fun y15 => bi (gd (decide ((y15.length : Int) ≤ 9223372036854775807)) (rangeG (σ := List T_api_Record) (fun i17 s18 => bi (getZ s18 (i17 : Int)) fun x29 => bi (getZ s18 (i17 : Int)) fun x32 => some (s18.set ((i17 : Int).toNat) (⟨x32.Name, x32.Kind, x32.Addr, x32.To, x32.Words, wi (x29.Life - (wi (v_at - ((⟨x11.asking, x11.put, x11.life, y5.calls, x11.list⟩ : T_name_kept).put))))⟩ : T_api_Record))) (y15.length : Int) y15)) fun q20 => some (q20, true, 0, (⟨y5.most, y5.now, y5.calls, y5.list.set y7.toNat (⟨x11.asking, x11.put, x11.life, y5.calls, x11.list⟩ : T_name_kept)⟩ : T_name_Cache))))

def m_laneref1_Cache_Get (k : Nat) (c : T_laneref1_Cache) (v_at : Int) (name : Str) (kind : Int) : Option ((List T_api_Record) × Bool × Int × T_laneref1_Cache) :=
  bi (m_laneref1_Cache_callFault c v_at name) fun y1 => bif (y1 : Int) != 0 then (some ([], false, y1, c)) else (bi m_laneref1_Kinds fun y5 => bi (m_slices_Contains_int_int y5 kind) fun y7 => bif !y7 then (some ([], false, 4, c)) else (bi (m_laneref1_Cache_drop k c v_at) fun y11 => bi (gd (decide ((y11.l.length : Int) ≤ 9223372036854775807)) (rangeI (σ := Unit) (ρ := (List T_api_Record) × Bool × Int × T_laneref1_Cache) (fun i13 s14 => bi (getZ y11.l (i13 : Int)) fun x25 => bif ((!((x25.name : Str) == name)) || ((x25.kind : Int) != kind)) then (some (.go ())) else (bi (getZ y11.l (i13 : Int)) fun x30 => bi (rangeF (σ := List T_api_Record) (fun i33 x35 s34 => bi (apd s34 [(⟨x35.Name, x35.Kind, x35.Addr, x35.To, x35.Words, wi (x35.Life - (wi (v_at - x25.v_at)))⟩ : T_api_Record)]) fun y44 => some y44) 0 x25.l ([] : List T_api_Record)) fun q36 => bi (some (q36, true, 0, (⟨y11.most, y11.now, y11.calls, y11.l.set ((i13 : Int).toNat) (⟨x30.name, x30.kind, x30.v_at, x30.v_end, x30.l, y11.calls⟩ : T_laneref1_kept)⟩ : T_laneref1_Cache))) fun v => some (.out v))) (y11.l.length : Int) ())) fun q => goI q fun a18 => some ([], false, 0, y11)))

def m_slices_Equal_api_Record_api_Record (s1 : List T_api_Record) (s2 : List T_api_Record) : Option Bool :=
  bif ((s1.length : Int) : Int) != (s2.length : Int) then (some false) else (bi (rangeM (σ := Unit) (ρ := Bool) (fun i3 x5 s4 => bi (getZ s2 (i3 : Int)) fun x14 => bif !(((x5.Name : Str) == x14.Name) && (((x5.Kind : Int) == x14.Kind) && ((((x5.Addr.Six : Bool) == x14.Addr.Six) && (((x5.Addr.Hi : Int) == x14.Addr.Hi) && (((x5.Addr.Lo : Int) == x14.Addr.Lo) && true))) && (((x5.To : Str) == x14.To) && (((x5.Words : Str) == x14.Words) && (((x5.Life : Int) == x14.Life) && true)))))) then (bi (some false) fun v => some (.out v)) else (some (.go ()))) 0 s1 ()) fun q => goI q fun a8 => some true)

def m_name_under (name : Str) (zone : Str) : Option Bool :=
  bi (bif (name : Str) == zone then (some true) else (bi (catZ [46] zone) fun y5 => bi (m_strings_HasSuffix name y5) fun y7 => some y7)) fun q1 => some q1

def m_name_Cache_Drop_1 (v_k : T_name_kept) (x : Str) : Option Bool :=
  bi (m_name_under v_k.asking.name x) fun y1 => some y1

def m_slices_IndexFunc_name_kept_name_kept_4 (s : List T_name_kept) (f : Str) : Option Int :=
  bi (gd (decide ((s.length : Int) ≤ 9223372036854775807)) (rangeI (σ := Unit) (ρ := Int) (fun i1 s2 => bi (getZ s (i1 : Int)) fun x13 => bi (m_name_Cache_Drop_1 x13 f) fun y16 => bif y16 then (bi (some (i1 : Int)) fun v => some (.out v)) else (some (.go ()))) (s.length : Int) ())) fun q => goI q fun a6 => some (-1)

def m_slices_DeleteFunc_name_kept_name_kept_3 (k : Nat) (s : List T_name_kept) (f : Str) : Option (List T_name_kept) :=
  bi (m_slices_IndexFunc_name_kept_name_kept_4 s f) fun y1 => bif (y1 : Int) == (-1) then (some s) else (bi (loopM (σ := (List T_name_kept) × Int × Int) (ρ := (List T_name_kept) × Int) (fun s6 => bif decide ((s6.2.2 : Int) < (s6.1.length : Int)) then (bi (getZ s6.1 s6.2.2) fun x16 => bi (m_name_Cache_Drop_1 x16 f) fun y19 => bif !y19 then (bi (getZ s6.1 s6.2.1) fun x22 => some (.go (s6.1.set s6.2.1.toNat x16, wi (s6.2.1 + 1), wi (s6.2.2 + 1)))) else (some (.go (s6.1, s6.2.1, wi (s6.2.2 + 1))))) else (some (.out (s6.1, s6.2.1)))) k (s, y1, wi (y1 + 1))) fun q8 => bi (subZ q8.1 q8.2 (q8.1.length : Int)) fun z27 => some (q8.1.take q8.2.toNat))

def m_name_Cache_Drop (k : Nat) (c : T_name_Cache) (v_at : Int) (zone : Str) : Option (Int × Int × T_name_Cache) :=
  bi (m_name_Cache_timeFault c v_at) fun y1 => bif (y1 : Int) != 0 then (some (0, y1, c)) else (bi (m_name_CheckDomain k zone) fun y5 => bif (y5 : Int) != 0 then (some (0, y5, c)) else (bi (m_name_Cache_pass k c v_at) fun y9 => bi (m_slices_DeleteFunc_name_kept_name_kept_3 k y9.list zone) fun y11 => some (wi ((y9.list.length : Int) - (y11.length : Int)), 0, (⟨y9.most, y9.now, y9.calls, y11⟩ : T_name_Cache))))

def m_laneref1_IsUnder (name : Str) (zone : Str) : Option Bool :=
  bi (bif (name : Str) == zone then (some true) else (bi (catZ [46] zone) fun y5 => bi (m_strings_HasSuffix name y5) fun y7 => some y7)) fun q1 => some q1

def m_laneref1_Cache_Drop_1 (v_k : T_laneref1_kept) (x : Str) : Option Bool :=
  bi (m_laneref1_IsUnder v_k.name x) fun y1 => some y1

def m_slices_IndexFunc_laneref1_kept_laneref1_kept_3 (s : List T_laneref1_kept) (f : Str) : Option Int :=
  bi (gd (decide ((s.length : Int) ≤ 9223372036854775807)) (rangeI (σ := Unit) (ρ := Int) (fun i1 s2 => bi (getZ s (i1 : Int)) fun x13 => bi (m_laneref1_Cache_Drop_1 x13 f) fun y16 => bif y16 then (bi (some (i1 : Int)) fun v => some (.out v)) else (some (.go ()))) (s.length : Int) ())) fun q => goI q fun a6 => some (-1)

def m_slices_DeleteFunc_laneref1_kept_laneref1_kept_3 (k : Nat) (s : List T_laneref1_kept) (f : Str) : Option (List T_laneref1_kept) :=
  bi (m_slices_IndexFunc_laneref1_kept_laneref1_kept_3 s f) fun y1 => bif (y1 : Int) == (-1) then (some s) else (bi (loopM (σ := (List T_laneref1_kept) × Int × Int) (ρ := (List T_laneref1_kept) × Int) (fun s6 => bif decide ((s6.2.2 : Int) < (s6.1.length : Int)) then (bi (getZ s6.1 s6.2.2) fun x16 => bi (m_laneref1_Cache_Drop_1 x16 f) fun y19 => bif !y19 then (bi (getZ s6.1 s6.2.1) fun x22 => some (.go (s6.1.set s6.2.1.toNat x16, wi (s6.2.1 + 1), wi (s6.2.2 + 1)))) else (some (.go (s6.1, s6.2.1, wi (s6.2.2 + 1))))) else (some (.out (s6.1, s6.2.1)))) k (s, y1, wi (y1 + 1))) fun q8 => bi (subZ q8.1 q8.2 (q8.1.length : Int)) fun z27 => some (q8.1.take q8.2.toNat))

def m_laneref1_Cache_Drop (k : Nat) (c : T_laneref1_Cache) (v_at : Int) (zone : Str) : Option (Int × Int × T_laneref1_Cache) :=
  bi (m_laneref1_Cache_callFault c v_at zone) fun y1 => bif (y1 : Int) != 0 then (some (0, y1, c)) else (bi (m_laneref1_Cache_drop k c v_at) fun y5 => bi (m_slices_DeleteFunc_laneref1_kept_laneref1_kept_3 k y5.l zone) fun y7 => some (wi ((y5.l.length : Int) - (y7.length : Int)), 0, (⟨y5.most, y5.now, y5.calls, y7⟩ : T_laneref1_Cache)))

def m_name_Cache_Many (k : Nat) (c : T_name_Cache) (v_at : Int) : Option (Int × Int × T_name_Cache) :=
  bi (m_name_Cache_timeFault c v_at) fun y1 => bif (y1 : Int) != 0 then (some (0, y1, c)) else (bi (m_name_Cache_pass k c v_at) fun y5 => some ((y5.list.length : Int), 0, y5))

def m_laneref1_Cache_Many (k : Nat) (c : T_laneref1_Cache) (v_at : Int) : Option (Int × Int × T_laneref1_Cache) :=
  bi (m_laneref1_Cache_callFault c v_at [120]) fun y1 => bif (y1 : Int) != 0 then (some (0, y1, c)) else (bi (m_laneref1_Cache_drop k c v_at) fun y5 => some ((y5.l.length : Int), 0, y5))

def m_lanelaw1_CachesKeep (k : Nat) (l : List Int) : Option Bool :=
  bi (m_lanemake_Stream_Pick (⟨l, 0⟩ : T_lanemake_Stream) [1, 2, 2, 3, 0, 501]) fun y1 => bi (m_name_New y1.1) fun y3 => match y3 with | (none, z6) => (bif ((decide ((y1.1 : Int) < 1)) || (decide ((y1.1 : Int) > 500))) then (bi (bif (((z6 : Int) == 1) && true) then (bi (m_lanelaw1_named k) fun y11 => some y11) else (some false)) fun q8 => some q8) else (some false)) | (some z5, z6) => (bif ((decide ((y1.1 : Int) < 1)) || (decide ((y1.1 : Int) > 500))) then (some false) else (bif (((z6 : Int) != 0) || false) then (some false) else (bi (m_laneref1_NewCache y1.1) fun y19 => bi (m_lanemake_Stream_Next y1.2 18) fun y21 => bi (gd (decide (y21.1 ≤ 9223372036854775807)) (rangeI (σ := T_lanemake_Stream × (List T_name_kept) × Int × Int × Int × (List T_laneref1_kept) × Int × Int × Int × Int) (ρ := Bool) (fun i23 s24 => bi (m_lanemake_Stream_Pick s24.1 [0, 0, 1, 2, 5, 60]) fun y35 => bi (m_lanemake_Stream_Flip y35.2 30) fun y37 => bi (bif y37.1 then (bi (m_lanemake_Stream_Pick y37.2 [-1, 0, 345686400]) fun y42 => some (y42.2, y42.1)) else (some (y37.2, wi (s24.2.2.2.2.2.2.2.2.2 + y35.1)))) fun q39 => bi (m_lanemake_Stream_Some q39.1 [[97, 46, 110, 101, 116, 46, 120], [97, 46, 110, 101, 116, 46, 120], [98, 46, 110, 101, 116, 46, 120], [99, 46, 110, 101, 116, 46, 120], [65]]) fun y45 => bi (m_lanemake_Stream_Pick y45.2 [1, 1, 28, 2]) fun y47 => bi (m_lanemake_Stream_Next y47.2 7) fun y49 => bi (bif (y49.1 : Int) == 0 then (some ((y49.1 : Int) == 0)) else (bif (y49.1 : Int) == 1 then (some ((y49.1 : Int) == 1)) else (some ((y49.1 : Int) == 2)))) fun q51 => bif q51 then (bi (m_lanemake_Stream_Range y49.2 0 2) fun y58 => bi (m_lanemake_Stream_Records y58.2 y58.1) fun y60 => bi (m_lanemake_Stream_Pick y60.2 [0, 5, 60, 60, -1]) fun y62 => bi (m_name_Cache_Put k (⟨s24.2.2.1, s24.2.2.2.1, s24.2.2.2.2.1, s24.2.1⟩ : T_name_Cache) q39.2 y45.1 y47.1 y60.1 y62.1) fun y64 => bi (m_laneref1_Cache_Put k (⟨s24.2.2.2.2.2.2.1, s24.2.2.2.2.2.2.2.1, s24.2.2.2.2.2.2.2.2.1, s24.2.2.2.2.2.1⟩ : T_laneref1_Cache) q39.2 y45.1 y47.1 y60.1 y62.1) fun y66 => bif (y64.1 : Int) != y66.1 then (bi (some false) fun v => some (.out v)) else (some (.go (y62.2, y64.2.list, y64.2.most, y64.2.now, y64.2.calls, y66.2.l, y66.2.most, y66.2.now, y66.2.calls, wi (s24.2.2.2.2.2.2.2.2.2 + y35.1))))) else (bi (bif (y49.1 : Int) == 3 then (some ((y49.1 : Int) == 3)) else (some ((y49.1 : Int) == 4))) fun q73 => bif q73 then (bi (m_name_Cache_Get k (⟨s24.2.2.1, s24.2.2.2.1, s24.2.2.2.2.1, s24.2.1⟩ : T_name_Cache) q39.2 y45.1 y47.1) fun y78 => bi (m_laneref1_Cache_Get k (⟨s24.2.2.2.2.2.2.1, s24.2.2.2.2.2.2.2.1, s24.2.2.2.2.2.2.2.2.1, s24.2.2.2.2.2.1⟩ : T_laneref1_Cache) q39.2 y45.1 y47.1) fun y80 => bi (bif (((y78.2.2.1 : Int) != y80.2.2.1) || (!((y78.2.1 : Bool) == y80.2.1))) then (some true) else (bi (m_slices_Equal_api_Record_api_Record y78.1 y80.1) fun y86 => some (!y86))) fun q82 => bif q82 then (bi (some false) fun v => some (.out v)) else (some (.go (y49.2, y78.2.2.2.list, y78.2.2.2.most, y78.2.2.2.now, y78.2.2.2.calls, y80.2.2.2.l, y80.2.2.2.most, y80.2.2.2.now, y80.2.2.2.calls, wi (s24.2.2.2.2.2.2.2.2.2 + y35.1))))) else (bif (y49.1 : Int) == 5 then (bi (m_lanemake_Stream_Some y49.2 [[97, 46, 110, 101, 116, 46, 120], [110, 101, 116, 46, 120], []]) fun y94 => bi (m_name_Cache_Drop k (⟨s24.2.2.1, s24.2.2.2.1, s24.2.2.2.2.1, s24.2.1⟩ : T_name_Cache) q39.2 y94.1) fun y96 => bi (m_laneref1_Cache_Drop k (⟨s24.2.2.2.2.2.2.1, s24.2.2.2.2.2.2.2.1, s24.2.2.2.2.2.2.2.2.1, s24.2.2.2.2.2.1⟩ : T_laneref1_Cache) q39.2 y94.1) fun y98 => bif (((y96.2.1 : Int) != y98.2.1) || ((y96.1 : Int) != y98.1)) then (bi (some false) fun v => some (.out v)) else (some (.go (y94.2, y96.2.2.list, y96.2.2.most, y96.2.2.now, y96.2.2.calls, y98.2.2.l, y98.2.2.most, y98.2.2.now, y98.2.2.calls, wi (s24.2.2.2.2.2.2.2.2.2 + y35.1))))) else (bi (m_name_Cache_Many k (⟨s24.2.2.1, s24.2.2.2.1, s24.2.2.2.2.1, s24.2.1⟩ : T_name_Cache) q39.2) fun y105 => bi (m_laneref1_Cache_Many k (⟨s24.2.2.2.2.2.2.1, s24.2.2.2.2.2.2.2.1, s24.2.2.2.2.2.2.2.2.1, s24.2.2.2.2.2.1⟩ : T_laneref1_Cache) q39.2) fun y107 => bif (((y105.2.1 : Int) != y107.2.1) || ((y105.1 : Int) != y107.1)) then (bi (some false) fun v => some (.out v)) else (some (.go (y49.2, y105.2.2.list, y105.2.2.most, y105.2.2.now, y105.2.2.calls, y107.2.2.l, y107.2.2.most, y107.2.2.now, y107.2.2.calls, wi (s24.2.2.2.2.2.2.2.2.2 + y35.1)))))))) y21.1 (y21.2, z5.list, z5.most, z5.now, z5.calls, y19.l, y19.most, y19.now, y19.calls, 0))) fun q => goI q fun a28 => bi (m_lanelaw1_named k) fun y113 => some y113)))

end
end Go.Gk
