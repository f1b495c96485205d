/-
  Models of functions.
-/
import Derived.Test.YtpgnhnjhpnbelaaGreatDoorMStr3
set_option linter.unusedVariables false
namespace Go.Gk
structure T_lanemake_Stream where
  L : List Int
  v_at : Int
  deriving DecidableEq
structure T_api_Wish where
  Node : Str
  Name : Str
  Joined : Int
  deriving DecidableEq
structure T_api_Called where
  Node : Str
  Label : Str
  deriving DecidableEq

def m_lanemake_Below (x : Int) (n : Int) : Option Int :=
  bif decide ((n : Int) < 1) then (some 0) else (bi (remZ x n) fun y3 => bi (bif decide ((y3 : Int) < 0) then (some (wi (y3 + n))) else (some y3)) fun q5 => some q5)

def m_lanemake_Stream_Next (s : T_lanemake_Stream) (n : Int) : Option (Int × T_lanemake_Stream) :=
  bif ((s.L.length : Int) : Int) == 0 then (bi (m_lanemake_Below (wi ((wi (s.v_at + 1)) * 7919)) n) fun y2 => some (y2, (⟨s.L, wi (s.v_at + 1)⟩ : T_lanemake_Stream))) else (bi (remZ (wi ((wi (s.v_at + 1)) - 1)) (s.L.length : Int)) fun y5 => bi (divZ .i64 (wi ((wi (s.v_at + 1)) - 1)) (s.L.length : Int)) fun y7 => bi (getZ s.L y5) fun x9 => bi (m_lanemake_Below x9 1073741824) fun y11 => bi (m_lanemake_Below (wi (y11 + (wi (y7 * (wi (7919 + y5)))))) n) fun y13 => some (y13, (⟨s.L, wi (s.v_at + 1)⟩ : T_lanemake_Stream)))

def m_lanemake_Stream_Flip (s : T_lanemake_Stream) (n : Int) : Option (Bool × T_lanemake_Stream) :=
  bi (m_lanemake_Stream_Next s n) fun y1 => some ((y1.1 : Int) == 0, y1.2)

def m_lanemake_Stream_Some (s : T_lanemake_Stream) (l : List Str) : Option (Str × T_lanemake_Stream) :=
  bi (m_lanemake_Stream_Next s (l.length : Int)) fun y1 => bi (getZ l y1.1) fun x3 => some (x3, y1.2)

def m_lanemake_Stream_Pick (s : T_lanemake_Stream) (l : List Int) : Option (Int × T_lanemake_Stream) :=
  bi (m_lanemake_Stream_Next s (l.length : Int)) fun y1 => bi (getZ l y1.1) fun x3 => some (x3, y1.2)

def m_lanemake_Stream_Wishes (s : T_lanemake_Stream) : Option ((List T_api_Wish) × T_lanemake_Stream) :=
  bi (rangeF (σ := T_lanemake_Stream × (List T_api_Wish)) (fun i1 x3 s2 => bi (m_lanemake_Stream_Flip s2.1 4) fun y12 => bif !y12.1 then (bi (m_strings_Repeat [108, 111, 110, 103] 16) fun y15 => bi (catZ y15 [45]) fun y17 => bi (m_lanemake_Stream_Some y12.2 [[98, 111, 120], [98, 111, 120], [66, 111, 120], [98, 111, 120, 32, 49], [77, 121, 32, 77, 97, 99, 33], [], [45, 45], y17, [98, 45], [195, 169]]) fun y19 => bi (m_lanemake_Stream_Pick y19.2 [0, 1, 1, 2]) fun y21 => bi (apd s2.2 [(⟨x3, y19.1, y21.1⟩ : T_api_Wish)]) fun y23 => some (y21.2, y23)) else (some (y12.2, s2.2))) 0 [[110, 97], [110, 98], [110, 99], [110, 100], [110, 101]] (s, ([] : List T_api_Wish))) fun q4 => bi (bif decide (((q4.2.length : Int) : Int) > 0) then (bi (m_lanemake_Stream_Flip q4.1 20) fun y29 => some (y29.2, y29.1)) else (some (q4.1, false))) fun q26 => bi (bif q26.2 then (bi (m_lanemake_Stream_Next q26.1 (q4.2.length : Int)) fun y35 => bi (getZ q4.2 y35.1) fun x37 => bi (m_lanemake_Stream_Some y35.2 [[], [110, 97], x37.Node]) fun y40 => bi (m_strings_Repeat [97] 201) fun y42 => bi (m_lanemake_Stream_Some y40.2 [y42, [120]]) fun y44 => bi (m_lanemake_Stream_Pick y44.2 [-1, 0, 345686400]) fun y46 => some (y46.2, ((q4.2.set y35.1.toNat (⟨y40.1, x37.Name, x37.Joined⟩ : T_api_Wish)).set y35.1.toNat (⟨(⟨y40.1, x37.Name, x37.Joined⟩ : T_api_Wish).Node, y44.1, (⟨y40.1, x37.Name, x37.Joined⟩ : T_api_Wish).Joined⟩ : T_api_Wish)).set y35.1.toNat (⟨(⟨(⟨y40.1, x37.Name, x37.Joined⟩ : T_api_Wish).Node, y44.1, (⟨y40.1, x37.Name, x37.Joined⟩ : T_api_Wish).Joined⟩ : T_api_Wish).Node, (⟨(⟨y40.1, x37.Name, x37.Joined⟩ : T_api_Wish).Node, y44.1, (⟨y40.1, x37.Name, x37.Joined⟩ : T_api_Wish).Joined⟩ : T_api_Wish).Name, y46.1⟩ : T_api_Wish))) else (some (q26.1, q4.2))) fun q32 => some (q32.2, q32.1)

def m_kit_IsKey (k : Nat) (s : Str) : Option Bool :=
  bi (loopM (σ := Int) (ρ := Unit ⊕ Bool) (fun s2 => bif decide ((s2 : Int) < (s.length : Int)) then (bi (getZ s s2) fun c12 => bif !(((decide (((c12.toNat : Int) : Int) ≥ 97)) && (decide (((c12.toNat : Int) : Int) ≤ 122))) || ((decide ((s2 : Int) > 0)) && ((((decide (((c12.toNat : Int) : Int) ≥ 48)) && (decide (((c12.toNat : Int) : Int) ≤ 57))) || (((c12.toNat : Int) : Int) == 45)) || (((c12.toNat : Int) : Int) == 95)))) then (bi (some false) fun v => some (.out (.inr v))) else (some (.go (wi (s2 + 1))))) else (some (.out (.inl ())))) k 0) fun q => orI q fun a6 => some ((!((s : Str) == [])) && (decide (((s.length : Int) : Int) ≤ 40)))

def m_kit_IsMoment (n : Int) : Option Bool :=
  some ((decide ((n : Int) ≥ 0)) && (decide ((n : Int) < 345686400)))

def m_name_wishesFault (k : Nat) (l : List T_api_Wish) : Option Int :=
  bif decide (((l.length : Int) : Int) > 500) then (some 2) else (bi (rangeM (σ := Unit) (ρ := Int) (fun i3 x5 s4 => bi (m_kit_IsKey k x5.Node) fun y14 => bif !y14 then (bi (some 5) fun v => some (.out v)) else (bi (bif decide (((i3 : Int) : Int) > 0) then (bi (getZ l (wi ((i3 : Int) - 1))) fun x23 => some (Op.bytesLess x5.Node x23.Node || (x5.Node : Str) == x23.Node)) else (some false)) fun q20 => bif q20 then (bi (some 7) fun v => some (.out v)) else (bif decide (((x5.Name.length : Int) : Int) > 200) then (bi (some 3) fun v => some (.out v)) else (bi (m_kit_IsMoment x5.Joined) fun y34 => bif !y34 then (bi (some 1) fun v => some (.out v)) else (some (.go ())))))) 0 l ()) fun q => goI q fun a8 => some 0)

def m_slices_Clone_api_Wish_api_Wish (s : List T_api_Wish) : Option (List T_api_Wish) :=
  bi (apd ([] : List T_api_Wish) s) fun y1 => some y1

def m_cmp_isNaN_int (x : Int) : Option Bool :=
  some ((x : Int) != x)

def m_cmp_Compare_int (x : Int) (y : Int) : Option Int :=
  bi (m_cmp_isNaN_int x) fun y1 => bi (m_cmp_isNaN_int y) fun y3 => bif y1 then (bif y3 then (some 0) else (some (-1))) else (bif y3 then (some 1) else (bif decide ((x : Int) < y) then (some (-1)) else (bif decide ((x : Int) > y) then (some 1) else (some 0))))

def m_name_Call_1 (a : T_api_Wish) (b : T_api_Wish) : Option Int :=
  bi (m_cmp_Compare_int a.Joined b.Joined) fun y1 => some y1

def m_slices_insertionSortCmpFunc_api_Wish (k : Nat) (data : List T_api_Wish) (a : Int) (b : Int) : Option (List T_api_Wish) :=
  bi (loopM (σ := (List T_api_Wish) × Int) (ρ := List T_api_Wish) (fun s2 => bif decide ((s2.2 : Int) < b) then (bi (loopM (σ := (List T_api_Wish) × Int) (ρ := List T_api_Wish) (fun s13 => bi (bif decide ((s13.2 : Int) > a) then (bi (getZ s13.1 s13.2) fun x25 => bi (getZ s13.1 (wi (s13.2 - 1))) fun x28 => bi (m_name_Call_1 x25 x28) fun y31 => some (decide ((y31 : Int) < 0))) else (some false)) fun q22 => bif q22 then (bi (getZ s13.1 (wi (s13.2 - 1))) fun x35 => bi (getZ s13.1 s13.2) fun x38 => bi (getZ s13.1 s13.2) fun x41 => bi (getZ s13.1 (wi (s13.2 - 1))) fun x44 => some (.go ((s13.1.set s13.2.toNat x35).set ((wi (s13.2 - 1)).toNat) x38, wi (s13.2 - 1)))) else (some (.out s13.1))) k (s2.1, s2.2)) fun q15 => some (.go (q15, wi (s2.2 + 1)))) else (some (.out s2.1))) k (data, wi (a + 1))) fun q4 => some q4

def m_slices_stableCmpFunc_api_Wish (k : Nat) (data : List T_api_Wish) (n : Int) : Option (List T_api_Wish) :=
  bi (loopM (σ := (List T_api_Wish) × Int × Int) (ρ := (List T_api_Wish) × Int) (fun s2 => bif decide ((s2.2.2 : Int) ≤ n) then (bi (m_slices_insertionSortCmpFunc_api_Wish k s2.1 s2.2.1 s2.2.2) fun y12 => gd (decide (y12.length = s2.1.length)) (some (.go (y12, s2.2.2, wi (s2.2.2 + 20))))) else (some (.out (s2.1, s2.2.1)))) k (data, 0, 20)) fun q4 => bi (m_slices_insertionSortCmpFunc_api_Wish k q4.1 q4.2 n) fun y17 => gd (decide (y17.length = q4.1.length)) (bi (loopM (σ := Int) (ρ := Unit) (fun s22 => bif decide ((s22 : Int) < n) then (bi (loopM (σ := Unit) (ρ := Unit) (fun s33 => bif decide ((wi (2 * s22) : Int) ≤ n) then none else (some (.out ()))) k ()) fun q35 => bif decide ((wi (0 + s22) : Int) < n) then none else (some (.go (wi (s22 * 2))))) else (some (.out ()))) k 20) fun q24 => some y17)

def m_slices_SortStableFunc_api_Wish_api_Wish (k : Nat) (x : List T_api_Wish) : Option (List T_api_Wish) :=
  bi (m_slices_stableCmpFunc_api_Wish k x (x.length : Int)) fun y1 => some y1

def m_name_isLetter (c : Int) : Option Bool :=
  some (((decide ((c : Int) ≥ 97)) && (decide ((c : Int) ≤ 122))) || ((decide ((c : Int) ≥ 48)) && (decide ((c : Int) ≤ 57))))

def m_name_Label (s : Str) : Option Str :=
  bi (gd (decide ((s.length : Int) ≤ 9223372036854775807)) (rangeG (σ := List Int) (fun i1 s2 => bi (getZ s (i1 : Int)) fun c13 => bi (bif ((decide (((c13.toNat : Int) : Int) ≥ 65)) && (decide (((c13.toNat : Int) : Int) ≤ 90))) then (some (IntKind.u8.wrap ((c13.toNat : Int) + 32))) else (some (c13.toNat : Int))) fun q15 => bi (m_name_isLetter q15) fun y19 => bif y19 then (bi (apd s2 [q15]) fun y22 => some y22) else (bi (bif ((s2.length : Int) : Int) == 0 then (some true) else (bi (getZ s2 (wi ((s2.length : Int) - 1))) fun x29 => some ((x29 : Int) != 45))) fun q25 => bif q25 then (bi (apd s2 [45]) fun y33 => some y33) else (some s2))) (s.length : Int) ([] : List Int))) fun q4 => bi (subZ q4 0 (if 63 < (q4.length : Int) then 63 else (q4.length : Int))) fun z36 => bi (strB z36) fun y38 => bi (m_strings_Trim y38 [45]) fun y40 => bif (y40 : Str) == [] then (some [110, 111, 100, 101]) else (some y40)

def m_math_bits_Len64 (x : Int) : Option Int :=
  bi (bif decide ((x : Int) ≥ 4294967296) then (some (shrV .u64 x 32, 32)) else (some (x, 0))) fun q1 => bi (bif decide ((q1.1 : Int) ≥ 65536) then (some (shrV .u64 q1.1 16, wi (q1.2 + 16))) else (some (q1.1, q1.2))) fun q5 => bi (bif decide ((q5.1 : Int) ≥ 256) then (some (shrV .u64 q5.1 8, wi (q5.2 + 8))) else (some (q5.1, q5.2))) fun q9 => bi (getZ ([0, 1, 2, 2, 3, 3, 3, 3, 4, 4, 4, 4, 4, 4, 4, 4, 5, 5, 5, 5, 5, 5, 5, 5, 5, 5, 5, 5, 5, 5, 5, 5, 6, 6, 6, 6, 6, 6, 6, 6, 6, 6, 6, 6, 6, 6, 6, 6, 6, 6, 6, 6, 6, 6, 6, 6, 6, 6, 6, 6, 6, 6, 6, 6, 7, 7, 7, 7, 7, 7, 7, 7, 7, 7, 7, 7, 7, 7, 7, 7, 7, 7, 7, 7, 7, 7, 7, 7, 7, 7, 7, 7, 7, 7, 7, 7, 7, 7, 7, 7, 7, 7, 7, 7, 7, 7, 7, 7, 7, 7, 7, 7, 7, 7, 7, 7, 7, 7, 7, 7, 7, 7, 7, 7, 7, 7, 7, 7, 8, 8, 8, 8, 8, 8, 8, 8, 8, 8, 8, 8, 8, 8, 8, 8, 8, 8, 8, 8, 8, 8, 8, 8, 8, 8, 8, 8, 8, 8, 8, 8, 8, 8, 8, 8, 8, 8, 8, 8, 8, 8, 8, 8, 8, 8, 8, 8, 8, 8, 8, 8, 8, 8, 8, 8, 8, 8, 8, 8, 8, 8, 8, 8, 8, 8, 8, 8, 8, 8, 8, 8, 8, 8, 8, 8, 8, 8, 8, 8, 8, 8, 8, 8, 8, 8, 8, 8, 8, 8, 8, 8, 8, 8, 8, 8, 8, 8, 8, 8, 8, 8, 8, 8, 8, 8, 8, 8, 8, 8, 8, 8, 8, 8, 8, 8, 8, 8, 8, 8, 8, 8, 8, 8, 8, 8, 8, 8] : Str) (IntKind.u8.wrap (q9.1))) fun c13 => some (wi (q9.2 + (wi ((c13.toNat : Int)))))

def m_math_bits_Len (x : Int) : Option Int :=
  bi (m_math_bits_Len64 x) fun y1 => some y1

def m_name_Call_2 (a : T_api_Called) (b : T_api_Called) : Option Int :=
  bi (m_strings_Compare a.Node b.Node) fun y1 => some y1

def m_slices_insertionSortCmpFunc_api_Called (k : Nat) (data : List T_api_Called) (a : Int) (b : Int) : Option (List T_api_Called) :=
  bi (loopM (σ := (List T_api_Called) × Int) (ρ := List T_api_Called) (fun s2 => bif decide ((s2.2 : Int) < b) then (bi (loopM (σ := (List T_api_Called) × Int) (ρ := List T_api_Called) (fun s13 => bi (bif decide ((s13.2 : Int) > a) then (bi (getZ s13.1 s13.2) fun x25 => bi (getZ s13.1 (wi (s13.2 - 1))) fun x28 => bi (m_name_Call_2 x25 x28) fun y31 => some (decide ((y31 : Int) < 0))) else (some false)) fun q22 => bif q22 then (bi (getZ s13.1 (wi (s13.2 - 1))) fun x35 => bi (getZ s13.1 s13.2) fun x38 => bi (getZ s13.1 s13.2) fun x41 => bi (getZ s13.1 (wi (s13.2 - 1))) fun x44 => some (.go ((s13.1.set s13.2.toNat x35).set ((wi (s13.2 - 1)).toNat) x38, wi (s13.2 - 1)))) else (some (.out s13.1))) k (s2.1, s2.2)) fun q15 => some (.go (q15, wi (s2.2 + 1)))) else (some (.out s2.1))) k (data, wi (a + 1))) fun q4 => some q4

def m_slices_pdqsortCmpFunc_api_Called (k : Nat) (data : List T_api_Called) (a : Int) (b : Int) (limit : Int) : Option (List T_api_Called) :=
  bi (loopM (σ := Unit) (ρ := List T_api_Called) (fun s2 => bif decide ((wi (b - a) : Int) ≤ 12) then (bi (m_slices_insertionSortCmpFunc_api_Called k data a b) fun y12 => bi (some y12) fun v => some (.out v)) else (bif (limit : Int) == 0 then none else none)) k ()) fun v => some v

def m_slices_SortFunc_api_Called_api_Called (k : Nat) (x : List T_api_Called) : Option (List T_api_Called) :=
  bi (m_math_bits_Len (IntKind.u64.wrap ((x.length : Int)))) fun y1 => bi (m_slices_pdqsortCmpFunc_api_Called k x 0 (x.length : Int) y1) fun y3 => some y3

def m_name_Call (k : Nat) (l : List T_api_Wish) : Option ((List T_api_Called) × Int) :=
  bi (m_name_wishesFault k l) fun y1 => bif (y1 : Int) != 0 then (some ([], y1)) else (bi (m_slices_Clone_api_Wish_api_Wish l) fun y5 => bi (m_slices_SortStableFunc_api_Wish_api_Wish k y5) fun y7 => gd (decide (y7.length = y5.length)) (bi (gd (decide ((y7.length : Int) ≤ 9223372036854775807)) (rangeG (σ := (List (Str × Bool)) × (List T_api_Called)) (fun i11 s12 => bi (getZ y7 (i11 : Int)) fun x23 => bi (m_name_Label x23.Name) fun y26 => bi (loopM (σ := Str × Int) (ρ := Str) (fun s29 => bif ((mGet s12.1 s29.1).getD false) then (bi (m_strconv_Itoa s29.2) fun y39 => bi (catZ [45] y39) fun y41 => bi (subZ y26 0 (if (wi (63 - (y41.length : Int))) < (y26.length : Int) then wi (63 - (y41.length : Int)) else (y26.length : Int))) fun z43 => bi (catZ z43 y41) fun y45 => some (.go (y45, wi (s29.2 + 1)))) else (some (.out s29.1))) k (y26, 1)) fun q31 => bi (apd s12.2 [(⟨x23.Node, q31⟩ : T_api_Called)]) fun y48 => some ((mSet s12.1 q31 true), y48)) (y7.length : Int) (([] : List (Str × Bool)), ([] : List T_api_Called)))) fun q14 => bi (m_slices_SortFunc_api_Called_api_Called k q14.2) fun y50 => gd (decide (y50.length = q14.2.length)) (some (y50, 0))))

def m_lanemake_Stream_Changed (s : T_lanemake_Stream) (t : Str) (v_with : Str) : Option (Str × T_lanemake_Stream) :=
  bif (((t : Str) == []) || ((v_with : Str) == [])) then (some (v_with, s)) else (bi (m_lanemake_Stream_Next s (t.length : Int)) fun y3 => bi (m_lanemake_Stream_Next y3.2 (v_with.length : Int)) fun y5 => bi (getZ v_with y5.1) fun c7 => bi (m_lanemake_Stream_Next y5.2 3) fun y9 => bif (y9.1 : Int) == 0 then (bi (subZ t 0 y3.1) fun z12 => bi (catZ z12 (runeS (IntKind.i32.wrap ((c7.toNat : Int))))) fun y14 => bi (subZ t (wi (y3.1 + 1)) (t.length : Int)) fun z16 => bi (catZ y14 z16) fun y18 => some (y18, y9.2)) else (bif (y9.1 : Int) == 1 then (bi (subZ t 0 y3.1) fun z22 => bi (catZ z22 (runeS (IntKind.i32.wrap ((c7.toNat : Int))))) fun y24 => bi (subZ t y3.1 (t.length : Int)) fun z26 => bi (catZ y24 z26) fun y28 => some (y28, y9.2)) else (bi (subZ t 0 y3.1) fun z31 => bi (subZ t (wi (y3.1 + 1)) (t.length : Int)) fun z33 => bi (catZ z31 z33) fun y35 => some (y35, y9.2))))

def m_laneref1_LabelOf (s : Str) : Option Str :=
  bi (gd (decide ((s.length : Int) ≤ 9223372036854775807)) (rangeG (σ := (List Str) × Str) (fun i1 s2 => bi (getZ s (i1 : Int)) fun c13 => bi (bif ((decide (((c13.toNat : Int) : Int) ≥ 65)) && (decide (((c13.toNat : Int) : Int) ≤ 90))) then (some (IntKind.u8.wrap ((c13.toNat : Int) + 32))) else (some (c13.toNat : Int))) fun q15 => bi (bif (q15 : Int) != 45 then (bi (m_strings_IndexByte [97, 98, 99, 100, 101, 102, 103, 104, 105, 106, 107, 108, 109, 110, 111, 112, 113, 114, 115, 116, 117, 118, 119, 120, 121, 122, 48, 49, 50, 51, 52, 53, 54, 55, 56, 57, 45] q15) fun y22 => some (decide ((y22 : Int) ≥ 0))) else (some false)) fun q19 => bif q19 then (bi (catZ s2.2 (runeS (IntKind.i32.wrap (q15)))) fun y26 => some (s2.1, y26)) else (bif ((!((s2.2 : Str) == [])) || (((s2.1.length : Int) : Int) == 0)) then (bi (apd s2.1 [s2.2]) fun y30 => some (y30, [])) else (some (s2.1, s2.2)))) (s.length : Int) (([] : List Str), []))) fun q4 => bi (apd q4.1 [q4.2]) fun y33 => bi (m_strings_Join y33 [45]) fun y35 => bi (subZ y35 0 (if 63 < (y35.length : Int) then 63 else (y35.length : Int))) fun z37 => bi (m_strings_Trim z37 [45]) fun y39 => bif (y39 : Str) == [] then (some [110, 111, 100, 101]) else (some y39)

def m_laneref2_in (n : Int) (low : Int) (high : Int) : Option Bool :=
  some ((decide ((low : Int) ≤ n)) && (decide ((n : Int) ≤ high)))

def m_laneref2_only (s : Str) (v_some : Str) : Option Bool :=
  bi (m_strings_Trim s v_some) fun y1 => some ((y1 : Str) == [])

def m_laneref2_Key (s : Str) : Option Bool :=
  bi (m_laneref2_in (s.length : Int) 1 40) fun y1 => bi (bif y1 then (bi (subZ s 0 1) fun z6 => bi (m_laneref2_only z6 [97, 98, 99, 100, 101, 102, 103, 104, 105, 106, 107, 108, 109, 110, 111, 112, 113, 114, 115, 116, 117, 118, 119, 120, 121, 122]) fun y8 => some y8) else (some false)) fun q3 => bi (bif q3 then (bi (m_laneref2_only s [97, 98, 99, 100, 101, 102, 103, 104, 105, 106, 107, 108, 109, 110, 111, 112, 113, 114, 115, 116, 117, 118, 119, 120, 121, 122, 48, 49, 50, 51, 52, 53, 54, 55, 56, 57, 45, 95]) fun y14 => some y14) else (some false)) fun q11 => some q11

def m_laneref2_Moment (v_at : Int) : Option Bool :=
  bi (m_laneref2_in v_at 0 345686399) fun y1 => some y1

def m_laneref1_WishesFault (l : List T_api_Wish) : Option Int :=
  bif decide (((l.length : Int) : Int) > 500) then (some 2) else (bi (rangeM (σ := Unit) (ρ := Int) (fun i3 x5 s4 => bi (m_laneref2_Key x5.Node) fun y14 => bif !y14 then (bi (some 5) fun v => some (.out v)) else (bi (bif decide (((i3 : Int) : Int) > 0) then (bi (getZ l (wi ((i3 : Int) - 1))) fun x23 => some (Op.bytesLess x5.Node x23.Node || (x5.Node : Str) == x23.Node)) else (some false)) fun q20 => bif q20 then (bi (some 7) fun v => some (.out v)) else (bif decide (((x5.Name.length : Int) : Int) > 200) then (bi (some 3) fun v => some (.out v)) else (bi (m_laneref2_Moment x5.Joined) fun y34 => bif !y34 then (bi (some 1) fun v => some (.out v)) else (some (.go ())))))) 0 l ()) fun q => goI q fun a8 => some 0)

def m_name_isLabel : Nat → Str → Option Bool
  | 0, _ => none
  | k + 1, s => bi (m_strings_CutPrefix s [95]) fun y1 => bif y1.2 then (bi (m_strings_HasPrefix y1.1 [95]) fun y4 => bi (bif !y4 then (bi (m_name_isLabel k y1.1) fun y9 => some y9) else (some false)) fun q6 => some (q6 && (decide (((s.length : Int) : Int) ≤ 63)))) else (bi (gd (decide ((s.length : Int) ≤ 9223372036854775807)) (rangeI (σ := Unit) (ρ := Bool) (fun i13 s14 => bi (getZ s (i13 : Int)) fun c25 => bi (m_name_isLetter (c25.toNat : Int)) fun y27 => bi (bif !y27 then (bi (getZ s (i13 : Int)) fun c32 => some (((c32.toNat : Int) : Int) != 45)) else (some false)) fun q29 => bif q29 then (bi (some false) fun v => some (.out v)) else (some (.go ()))) (s.length : Int) ())) fun q => goI q fun a18 => bi (bif ((!((s : Str) == [])) && (decide (((s.length : Int) : Int) ≤ 63))) then (bi (getZ s 0) fun c42 => some (((c42.toNat : Int) : Int) != 45)) else (some false)) fun q39 => bi (bif q39 then (bi (getZ s (wi ((s.length : Int) - 1))) fun c48 => some (((c48.toNat : Int) : Int) != 45)) else (some false)) fun q45 => some q45)

def m_name_CheckDomain (k : Nat) (s : Str) : Option Int :=
  bif decide (((s.length : Int) : Int) > 253) then (some 2) else (bi (m_strings_Split s [46]) fun y3 => bi (rangeM (σ := Unit) (ρ := Int) (fun i5 x7 s6 => bi (m_name_isLabel k x7) fun y16 => bif !y16 then (bi (some 5) fun v => some (.out v)) else (some (.go ()))) 0 y3 ()) fun q => goI q fun a10 => some 0)

def m_lanelaw1_named (k : Nat) : Option Bool :=
  bi (m_name_Label [65, 32, 98]) fun y1 => bi (bif (y1 : Str) == [97, 45, 98] then (bi (m_name_CheckDomain k [97, 46, 46, 98]) fun y6 => some ((y6 : Int) == 5)) else (some false)) fun q3 => some q3

def m_laneref1_CalledOf_1 (a : T_api_Wish) (b : T_api_Wish) : Option Int :=
  bi (m_cmp_Compare_int a.Joined b.Joined) fun y1 => some y1

def m_slices_insertionSortCmpFunc_api_Wish_2 (k : Nat) (data : List T_api_Wish) (a : Int) (b : Int) : Option (List T_api_Wish) :=
  bi (loopM (σ := (List T_api_Wish) × Int) (ρ := List T_api_Wish) (fun s2 => bif decide ((s2.2 : Int) < b) then (bi (loopM (σ := (List T_api_Wish) × Int) (ρ := List T_api_Wish) (fun s13 => bi (bif decide ((s13.2 : Int) > a) then (bi (getZ s13.1 s13.2) fun x25 => bi (getZ s13.1 (wi (s13.2 - 1))) fun x28 => bi (m_laneref1_CalledOf_1 x25 x28) fun y31 => some (decide ((y31 : Int) < 0))) else (some false)) fun q22 => bif q22 then (bi (getZ s13.1 (wi (s13.2 - 1))) fun x35 => bi (getZ s13.1 s13.2) fun x38 => bi (getZ s13.1 s13.2) fun x41 => bi (getZ s13.1 (wi (s13.2 - 1))) fun x44 => some (.go ((s13.1.set s13.2.toNat x35).set ((wi (s13.2 - 1)).toNat) x38, wi (s13.2 - 1)))) else (some (.out s13.1))) k (s2.1, s2.2)) fun q15 => some (.go (q15, wi (s2.2 + 1)))) else (some (.out s2.1))) k (data, wi (a + 1))) fun q4 => some q4

def m_slices_stableCmpFunc_api_Wish_2 (k : Nat) (data : List T_api_Wish) (n : Int) : Option (List T_api_Wish) :=
  bi (loopM (σ := (List T_api_Wish) × Int × Int) (ρ := (List T_api_Wish) × Int) (fun s2 => bif decide ((s2.2.2 : Int) ≤ n) then (bi (m_slices_insertionSortCmpFunc_api_Wish_2 k s2.1 s2.2.1 s2.2.2) fun y12 => gd (decide (y12.length = s2.1.length)) (some (.go (y12, s2.2.2, wi (s2.2.2 + 20))))) else (some (.out (s2.1, s2.2.1)))) k (data, 0, 20)) fun q4 => bi (m_slices_insertionSortCmpFunc_api_Wish_2 k q4.1 q4.2 n) fun y17 => gd (decide (y17.length = q4.1.length)) (bi (loopM (σ := Int) (ρ := Unit) (fun s22 => bif decide ((s22 : Int) < n) then (bi (loopM (σ := Unit) (ρ := Unit) (fun s33 => bif decide ((wi (2 * s22) : Int) ≤ n) then none else (some (.out ()))) k ()) fun q35 => bif decide ((wi (0 + s22) : Int) < n) then none else (some (.go (wi (s22 * 2))))) else (some (.out ()))) k 20) fun q24 => some y17)

def m_slices_SortStableFunc_api_Wish_api_Wish_2 (k : Nat) (x : List T_api_Wish) : Option (List T_api_Wish) :=
  bi (m_slices_stableCmpFunc_api_Wish_2 k x (x.length : Int)) fun y1 => some y1

def m_laneref1_CalledOf_2 (a : T_api_Called) (b : T_api_Called) : Option Int :=
  bi (m_strings_Compare a.Node b.Node) fun y1 => some y1

def m_slices_insertionSortCmpFunc_api_Called_2 (k : Nat) (data : List T_api_Called) (a : Int) (b : Int) : Option (List T_api_Called) :=
  bi (loopM (σ := (List T_api_Called) × Int) (ρ := List T_api_Called) (fun s2 => bif decide ((s2.2 : Int) < b) then (bi (loopM (σ := (List T_api_Called) × Int) (ρ := List T_api_Called) (fun s13 => bi (bif decide ((s13.2 : Int) > a) then (bi (getZ s13.1 s13.2) fun x25 => bi (getZ s13.1 (wi (s13.2 - 1))) fun x28 => bi (m_laneref1_CalledOf_2 x25 x28) fun y31 => some (decide ((y31 : Int) < 0))) else (some false)) fun q22 => bif q22 then (bi (getZ s13.1 (wi (s13.2 - 1))) fun x35 => bi (getZ s13.1 s13.2) fun x38 => bi (getZ s13.1 s13.2) fun x41 => bi (getZ s13.1 (wi (s13.2 - 1))) fun x44 => some (.go ((s13.1.set s13.2.toNat x35).set ((wi (s13.2 - 1)).toNat) x38, wi (s13.2 - 1)))) else (some (.out s13.1))) k (s2.1, s2.2)) fun q15 => some (.go (q15, wi (s2.2 + 1)))) else (some (.out s2.1))) k (data, wi (a + 1))) fun q4 => some q4

def m_slices_pdqsortCmpFunc_api_Called_2 (k : Nat) (data : List T_api_Called) (a : Int) (b : Int) (limit : Int) : Option (List T_api_Called) :=
  bi (loopM (σ := Unit) (ρ := List T_api_Called) (fun s2 => bif decide ((wi (b - a) : Int) ≤ 12) then (bi (m_slices_insertionSortCmpFunc_api_Called_2 k data a b) fun y12 => bi (some y12) fun v => some (.out v)) else (bif (limit : Int) == 0 then none else none)) k ()) fun v => some v

def m_slices_SortFunc_api_Called_api_Called_2 (k : Nat) (x : List T_api_Called) : Option (List T_api_Called) :=
  bi (m_math_bits_Len (IntKind.u64.wrap ((x.length : Int)))) fun y1 => bi (m_slices_pdqsortCmpFunc_api_Called_2 k x 0 (x.length : Int) y1) fun y3 => some y3

def m_laneref1_CalledOf (k : Nat) (l : List T_api_Wish) : Option (List T_api_Called) :=
  bi (m_slices_Clone_api_Wish_api_Wish l) fun y1 => bi (m_slices_SortStableFunc_api_Wish_api_Wish_2 k y1) fun y3 => gd (decide (y3.length = y1.length)) (bi (gd (decide ((y3.length : Int) ≤ 9223372036854775807)) (rangeG (σ := (List (Str × Bool)) × (List T_api_Called)) (fun i7 s8 => bi (getZ y3 (i7 : Int)) fun x19 => bi (m_laneref1_LabelOf x19.Name) fun y22 => bi (loopM (σ := Str × Int) (ρ := Str) (fun s25 => bif ((mGet s8.1 s25.1).getD false) then (bi (m_strconv_Itoa s25.2) fun y35 => bi (catZ [45] y35) fun y37 => bi (subZ y22 0 (if (wi (63 - (y37.length : Int))) < (y22.length : Int) then wi (63 - (y37.length : Int)) else (y22.length : Int))) fun z39 => bi (catZ z39 y37) fun y41 => some (.go (y41, wi (s25.2 + 1)))) else (some (.out s25.1))) k (y22, 1)) fun q27 => bi (apd s8.2 [(⟨x19.Node, q27⟩ : T_api_Called)]) fun y44 => some ((mSet s8.1 q27 true), y44)) (y3.length : Int) (([] : List (Str × Bool)), ([] : List T_api_Called)))) fun q10 => bi (m_slices_SortFunc_api_Called_api_Called_2 k q10.2) fun y46 => gd (decide (y46.length = q10.2.length)) (some y46))

def m_slices_Equal_api_Called_api_Called (s1 : List T_api_Called) (s2 : List T_api_Called) : Option Bool :=
  bif ((s1.length : Int) : Int) != (s2.length : Int) then (some false) else (bi (rangeM (σ := Unit) (ρ := Bool) (fun i3 x5 s4 => bi (getZ s2 (i3 : Int)) fun x14 => bif !(((x5.Node : Str) == x14.Node) && (((x5.Label : Str) == x14.Label) && true)) then (bi (some false) fun v => some (.out v)) else (some (.go ()))) 0 s1 ()) fun q => goI q fun a8 => some true)

def m_lanelaw1_NodesCalled (k : Nat) (l : List Int) : Option Bool :=
  bi (m_lanemake_Stream_Wishes (⟨l, 0⟩ : T_lanemake_Stream)) fun y1 => bi (m_name_Call k y1.1) fun y3 => bi (rangeM (σ := T_lanemake_Stream) (ρ := Bool) (fun i5 x7 s6 => bi (m_lanemake_Stream_Flip s6 3) fun y16 => bi (bif y16.1 then (bi (m_lanemake_Stream_Changed y16.2 x7.Name [97, 65, 48, 45, 46, 95, 32, 255]) fun y21 => some (y21.2, y21.1)) else (some (y16.2, x7.Name))) fun q18 => bi (m_name_Label q18.2) fun y24 => bi (m_laneref1_LabelOf q18.2) fun y26 => bif !((y24 : Str) == y26) then (bi (some false) fun v => some (.out v)) else (some (.go q18.1))) 0 y1.1 y1.2) fun q => goI q fun a10 => bi (m_laneref1_WishesFault y1.1) fun y32 => bif (y32 : Int) != 0 then (bi (bif (((y3.2 : Int) == y32) && (((y3.1.length : Int) : Int) == 0)) then (bi (m_lanelaw1_named k) fun y38 => some y38) else (some false)) fun q35 => some q35) else (bi (bif (y3.2 : Int) == 0 then (bi (m_laneref1_CalledOf k y1.1) fun y45 => bi (m_slices_Equal_api_Called_api_Called y3.1 y45) fun y47 => some y47) else (some false)) fun q42 => bi (bif q42 then (bi (m_lanelaw1_named k) fun y53 => some y53) else (some false)) fun q50 => some q50)

end Go.Gk
