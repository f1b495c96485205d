/-
  Models of functions.
-/
import Derived.Test.YtnjnmkpgedkffaaDoorMStr3
set_option linter.unusedVariables false
namespace Go.Gk
noncomputable section
structure T_lanemake_Stream where
  L : List Int
  v_at : Int
  deriving DecidableEq
structure T_api_Link where
  A : Str
  v_B : Str
  Millis : Int
  deriving DecidableEq
structure T_api_Probe where
  At : Int
  Node : Str
  Relay : Str
  Millis : Int
  deriving DecidableEq
structure T_route_step where
  to : Str
  millis : Int
  deriving DecidableEq
structure T_route_far where
  millis : Int
  links : Int
  deriving DecidableEq
structure T_laneref1_trail where
  relays : List Str
  millis : Int
  deriving DecidableEq
structure T_api_Turn where
  Who : Str
  From : Int
  To : Int
  deriving DecidableEq
abbrev BagT := List Bool × List (Nat × (List (Str × Int)))

def m_lanemake_Below (x : Int) (n : Int) : Option Int :=
  bif decide ((n : Int) < 1) then (some 0) else (bi (remZ x n) fun y3 => bi (bif decide ((y3 : Int) < 0) then (some (wi (y3 + n))) else (some y3)) fun q5 => some q5)

def m_lanemake_Stream_Next (s : T_lanemake_Stream) (n : Int) : Option (Int × T_lanemake_Stream) :=
  bif ((s.L.length : Int) : Int) == 0 then (bi (m_lanemake_Below (wi ((wi (s.v_at + 1)) * 7919)) n) fun y2 => some (y2, (⟨s.L, wi (s.v_at + 1)⟩ : T_lanemake_Stream))) else (bi (remZ (wi ((wi (s.v_at + 1)) - 1)) (s.L.length : Int)) fun y5 => bi (divZ .i64 (wi ((wi (s.v_at + 1)) - 1)) (s.L.length : Int)) fun y7 => bi (getZ s.L y5) fun x9 => bi (m_lanemake_Below x9 1073741824) fun y11 => bi (m_lanemake_Below (wi (y11 + (wi (y7 * (wi (7919 + y5)))))) n) fun y13 => some (y13, (⟨s.L, wi (s.v_at + 1)⟩ : T_lanemake_Stream)))

def m_lanemake_Stream_Flip (s : T_lanemake_Stream) (n : Int) : Option (Bool × T_lanemake_Stream) :=
  bi (m_lanemake_Stream_Next s n) fun y1 => some ((y1.1 : Int) == 0, y1.2)

def m_lanemake_Stream_Pick (s : T_lanemake_Stream) (l : List Int) : Option (Int × T_lanemake_Stream) :=
  bi (m_lanemake_Stream_Next s (l.length : Int)) fun y1 => bi (getZ l y1.1) fun x3 => some (x3, y1.2)

def m_lanemake_Stream_Some (s : T_lanemake_Stream) (l : List Str) : Option (Str × T_lanemake_Stream) :=
  bi (m_lanemake_Stream_Next s (l.length : Int)) fun y1 => bi (getZ l y1.1) fun x3 => some (x3, y1.2)

def m_lanemake_Stream_Range (s : T_lanemake_Stream) (low : Int) (high : Int) : Option (Int × T_lanemake_Stream) :=
  bif decide ((high : Int) < low) then (some (low, s)) else (bi (m_lanemake_Stream_Next s (wi ((wi (high - low)) + 1))) fun y3 => some (wi (low + y3.1), y3.2))

def m_lanemake_Stream_Odd (s : T_lanemake_Stream) (low : Int) (high : Int) : Option (Int × T_lanemake_Stream) :=
  bi (m_lanemake_Stream_Flip s 12) fun y1 => bif y1.1 then (bi (m_lanemake_Stream_Pick y1.2 [wi (low - 1), wi (high + 1), low, high, -1099511627776, 1099511627776]) fun y4 => some (y4.1, y4.2)) else (bi (m_lanemake_Stream_Range y1.2 low high) fun y7 => some (y7.1, y7.2))

def m_lanemake_Stream_Links (s : T_lanemake_Stream) : Option ((List T_api_Link) × T_lanemake_Stream) :=
  bi (rangeF (σ := T_lanemake_Stream × (List T_api_Link)) (fun i1 x3 s2 => bi (subZ [[102, 114, 97], [108, 111, 110], [110, 121, 99], [115, 121, 100], [116, 111, 107]] (wi ((i1 : Int) + 1)) ([[102, 114, 97], [108, 111, 110], [110, 121, 99], [115, 121, 100], [116, 111, 107]].length : Int)) fun z12 => bi (rangeF (σ := T_lanemake_Stream × (List T_api_Link)) (fun i14 x16 s15 => bi (m_lanemake_Stream_Flip s15.1 3) fun y25 => bif !y25.1 then (bi (m_lanemake_Stream_Pick y25.2 [0, 5, 5, 10, 15, 90]) fun y28 => bi (apd s15.2 [(⟨x3, x16, y28.1⟩ : T_api_Link)]) fun y30 => some (y28.2, y30)) else (some (y25.2, s15.2))) 0 z12 (s2.1, s2.2)) fun q17 => some (q17.1, q17.2)) 0 [[102, 114, 97], [108, 111, 110], [110, 121, 99], [115, 121, 100], [116, 111, 107]] (s, ([] : List T_api_Link))) fun q4 => bi (m_lanemake_Stream_Flip q4.1 20) fun y33 => bi (bif y33.1 then (bi (m_lanemake_Stream_Some y33.2 [[], [102, 114, 97], [122, 122]]) fun y38 => bi (m_lanemake_Stream_Some y38.2 [[102, 114, 97], [122, 122, 122]]) fun y40 => bi (m_lanemake_Stream_Odd y40.2 0 1000000) fun y42 => bi (apd q4.2 [(⟨y38.1, y40.1, y42.1⟩ : T_api_Link)]) fun y44 => some (y42.2, y44)) else (some (y33.2, q4.2))) fun q35 => some (q35.2, q35.1)

def m_lanemake_Stream_Probes (s : T_lanemake_Stream) (many : Int) : Option ((List T_api_Probe) × T_lanemake_Stream) :=
  bi (gd (decide (many ≤ 9223372036854775807)) (rangeG (σ := T_lanemake_Stream × (List T_api_Probe)) (fun i1 s2 => bi (rangeF (σ := T_lanemake_Stream × (List T_api_Probe)) (fun i13 x15 s14 => bi (rangeF (σ := T_lanemake_Stream × (List T_api_Probe)) (fun i24 x26 s25 => bi (m_lanemake_Stream_Flip s25.1 2) fun y35 => bif y35.1 then (bi (m_lanemake_Stream_Pick y35.2 [-1, 5, 10, 12, 20, 20, 25, 40]) fun y38 => bi (apd s25.2 [(⟨wi (10 * (i1 : Int)), x15, x26, y38.1⟩ : T_api_Probe)]) fun y40 => some (y38.2, y40)) else (some (y35.2, s25.2))) 0 [[102, 114, 97], [108, 111, 110], [110, 121, 99]] (s14.1, s14.2)) fun q27 => some (q27.1, q27.2)) 0 [[110, 97], [110, 98]] (s2.1, s2.2)) fun q16 => some (q16.1, q16.2)) many (s, ([] : List T_api_Probe)))) fun q4 => bi (m_lanemake_Stream_Flip q4.1 20) fun y43 => bi (bif y43.1 then (bi (m_lanemake_Stream_Odd y43.2 0 345686399) fun y48 => bi (m_lanemake_Stream_Some y48.2 [[], [110, 97]]) fun y50 => bi (m_lanemake_Stream_Some y50.2 [[102, 114, 97], [65]]) fun y52 => bi (m_lanemake_Stream_Odd y52.2 (-1) 1000000) fun y54 => bi (apd q4.2 [(⟨y48.1, y50.1, y52.1, y54.1⟩ : T_api_Probe)]) fun y56 => some (y54.2, y56)) else (some (y43.2, q4.2))) fun q45 => some (q45.2, q45.1)

def m_kit_IsKey (k : Nat) (s : Str) : Option Bool :=
  bi (loopM (σ := Int) (ρ := Unit ⊕ Bool) (fun s2 => bif decide ((s2 : Int) < (s.length : Int)) then (bi (getZ s s2) fun c12 => bif !(((decide (((c12.toNat : Int) : Int) ≥ 97)) && (decide (((c12.toNat : Int) : Int) ≤ 122))) || ((decide ((s2 : Int) > 0)) && ((((decide (((c12.toNat : Int) : Int) ≥ 48)) && (decide (((c12.toNat : Int) : Int) ≤ 57))) || (((c12.toNat : Int) : Int) == 45)) || (((c12.toNat : Int) : Int) == 95)))) then (bi (some false) fun v => some (.out (.inr v))) else (some (.go (wi (s2 + 1))))) else (some (.out (.inl ())))) k 0) fun q => orI q fun a6 => some ((!((s : Str) == [])) && (decide (((s.length : Int) : Int) ≤ 40)))

def m_kit_Outside (n : Int) (low : Int) (high : Int) : Option Bool :=
  some ((decide ((n : Int) < low)) || (decide ((n : Int) > high)))

def m_cmp_Or_int (vals : List Int) : Option Int :=
  bi (rangeM (σ := Unit) (ρ := Int) (fun i1 x3 s2 => bif (x3 : Int) != 0 then (bi (some x3) fun v => some (.out v)) else (some (.go ()))) 0 vals ()) fun q => goI q fun a6 => some 0

def m_route_CheckLinks (k : Nat) (l : List T_api_Link) : Option Int :=
  bif decide (((l.length : Int) : Int) > 500) then (some 2) else (bi (rangeM (σ := Unit) (ρ := Int) (fun i3 x5 s4 => bi (m_kit_IsKey k x5.A) fun y14 => bi (bif !y14 then (some true) else (bi (m_kit_IsKey k x5.v_B) fun y20 => some (!y20))) fun q16 => bif q16 then (bi (some 5) fun v => some (.out v)) else (bif !(Op.bytesLess x5.A x5.v_B) then (bi (some 7) fun v => some (.out v)) else (bi (m_kit_Outside x5.Millis 0 1000000) fun y30 => bif y30 then (bi (some 1) fun v => some (.out v)) else (bi (bif decide (((i3 : Int) : Int) > 0) then (bi (getZ l (wi ((i3 : Int) - 1))) fun x39 => bi (m_strings_Compare x39.A x5.A) fun y41 => bi (getZ l (wi ((i3 : Int) - 1))) fun x43 => bi (m_strings_Compare x43.v_B x5.v_B) fun y45 => bi (m_cmp_Or_int [y41, y45]) fun y47 => some (decide ((y47 : Int) ≥ 0))) else (some false)) fun q36 => bif q36 then (bi (some 7) fun v => some (.out v)) else (some (.go ())))))) 0 l ()) fun q => goI q fun a8 => some 0)

def m_route_stepsOf (l : List T_api_Link) (al : BagT) : Option ((List (Str × (Tl T_route_step))) × BagT) :=
  bi (rangeF (σ := BagT × (List (Str × (Tl T_route_step)))) (fun i1 x3 s2 => bi (appT s2.1.1 ((mGet s2.2 x3.A).getD (1, [])) [(⟨x3.v_B, x3.Millis⟩ : T_route_step)]) fun y12 => bi (appT y12.2 ((mGet (mSet s2.2 x3.A y12.1) x3.v_B).getD (1, [])) [(⟨x3.A, x3.Millis⟩ : T_route_step)]) fun y14 => some ((y14.2, s2.1.2), (mSet (mSet s2.2 x3.A y12.1) x3.v_B y14.1))) 0 l (al, ([] : List (Str × (Tl T_route_step))))) fun q4 => some (q4.2, q4.1)

def m_route_far_less (a : T_route_far) (b : T_route_far) : Option Bool :=
  some ((decide ((a.millis : Int) < b.millis)) || (((a.millis : Int) == b.millis) && (decide ((a.links : Int) < b.links))))

def m_route_distances (k : Nat) (steps : List (Str × (Tl T_route_step))) (v_from : Str) : Option (List (Str × T_route_far)) :=
  bi (loopD (σ := (List (Str × T_route_far)) × (List (Str × Bool))) (ρ := List (Str × T_route_far)) (fun s2 Q => rangeW (σ := Str × Bool) (fun x21 s20 => bi (bif !((mGet s2.2 x21.1).getD false) then (bi (bif !s20.2 then (some true) else (bi (m_route_far_less x21.2 ((mGet s2.1 s20.1).getD (⟨0, 0⟩ : T_route_far))) fun y61 => some y61)) fun q57 => some q57) else (some false)) fun q54 => bif q54 then (some (x21.1, true)) else (some (s20.1, s20.2))) s2.1 ([], false) fun s20 => okW (bif !s20.2 then (bi (some s2.1) fun v => some (.out v)) else (bi (rangeF (σ := List (Str × T_route_far)) (fun i33 x35 s34 => bi (bif !((mGet s34 x35.to).isSome) then (some true) else (bi (m_route_far_less (⟨wi ((((mGet s34 s20.1).getD (⟨0, 0⟩ : T_route_far)).millis) + x35.millis), wi ((((mGet s34 s20.1).getD (⟨0, 0⟩ : T_route_far)).links) + 1)⟩ : T_route_far) ((mGet s34 x35.to).getD (⟨0, 0⟩ : T_route_far))) fun y48 => some y48)) fun q44 => bif q44 then (some (mSet s34 x35.to (⟨wi ((((mGet s34 s20.1).getD (⟨0, 0⟩ : T_route_far)).millis) + x35.millis), wi ((((mGet s34 s20.1).getD (⟨0, 0⟩ : T_route_far)).links) + 1)⟩ : T_route_far))) else (some s34)) 0 (((mGet steps s20.1).getD (1, [])).2) s2.1) fun q36 => some (.go (q36, (mSet s2.2 s20.1 true)))) : Option (LS ((List (Str × T_route_far)) × (List (Str × Bool))) (List (Str × T_route_far)))) Q) k ((mSet ([] : List (Str × T_route_far)) v_from (⟨0, 0⟩ : T_route_far)), ([] : List (Str × Bool)))) fun v => some v

def m_route_through (k : Nat) (l : List T_api_Link) (a : Str) (b : Str) (al : BagT) : Option ((List Str) × Int × Int × BagT) :=
  bi (m_route_stepsOf l al) fun y1 => bi (m_route_distances k y1.1 b) fun y3 => bif !((mGet y3 a).isSome) then (some ([], 0, 8, y1.2)) else (bi (loopM (σ := (List Str) × Str) (ρ := List Str) (fun s8 => bif !((s8.2 : Str) == b) then (bi (rangeF (σ := Str) (fun i18 x20 s19 => bif (((((mGet y3 x20.to).isSome) && ((wi ((((mGet y3 x20.to).getD (⟨0, 0⟩ : T_route_far)).millis) + x20.millis) : Int) == (((mGet y3 s8.2).getD (⟨0, 0⟩ : T_route_far)).millis))) && ((wi ((((mGet y3 x20.to).getD (⟨0, 0⟩ : T_route_far)).links) + 1) : Int) == (((mGet y3 s8.2).getD (⟨0, 0⟩ : T_route_far)).links))) && (((s19 : Str) == []) || (Op.bytesLess x20.to s19))) then (some x20.to) else (some s19)) 0 (((mGet y1.1 s8.2).getD (1, [])).2) []) fun q21 => bi (apd s8.1 [q21]) fun y31 => some (.go (y31, q21))) else (some (.out s8.1))) k ([a], a)) fun q10 => some (q10, ((mGet y3 a).getD (⟨0, 0⟩ : T_route_far)).millis, 0, y1.2))

def m_route_Through (k : Nat) (l : List T_api_Link) (a : Str) (b : Str) (al : BagT) : Option ((List Str) × Int × Int × BagT) :=
  bi (m_route_CheckLinks k l) fun y1 => bif (y1 : Int) != 0 then (some ([], 0, y1, al)) else (bi (m_kit_IsKey k a) fun y5 => bi (bif !y5 then (some true) else (bi (m_kit_IsKey k b) fun y11 => some (!y11))) fun q7 => bif q7 then (some ([], 0, 5, al)) else (bi (m_route_through k l a b al) fun y15 => some (y15.1, y15.2.1, y15.2.2.1, y15.2.2.2)))

def m_laneref2_in (n : Int) (low : Int) (high : Int) : Option Bool :=
  some ((decide ((low : Int) ≤ n)) && (decide ((n : Int) ≤ high)))

def m_laneref2_only (s : Str) (v_some : Str) : Option Bool :=
  bi (m_strings_Trim s v_some) fun y1 => some ((y1 : Str) == [])

def m_laneref2_Key (s : Str) : Option Bool :=
  bi (m_laneref2_in (s.length : Int) 1 40) fun y1 => bi (bif y1 then (bi (subZ s 0 1) fun z6 => bi (m_laneref2_only z6 [97, 98, 99, 100, 101, 102, 103, 104, 105, 106, 107, 108, 109, 110, 111, 112, 113, 114, 115, 116, 117, 118, 119, 120, 121, 122]) fun y8 => some y8) else (some false)) fun q3 => bi (bif q3 then (bi (m_laneref2_only s [97, 98, 99, 100, 101, 102, 103, 104, 105, 106, 107, 108, 109, 110, 111, 112, 113, 114, 115, 116, 117, 118, 119, 120, 121, 122, 48, 49, 50, 51, 52, 53, 54, 55, 56, 57, 45, 95]) fun y14 => some y14) else (some false)) fun q11 => some q11

def m_laneref1_in (n : Int) (low : Int) (high : Int) : Option Bool :=
  some ((decide ((low : Int) ≤ n)) && (decide ((n : Int) ≤ high)))

def m_laneref1_LinksFault (l : List T_api_Link) : Option Int :=
  bif decide (((l.length : Int) : Int) > 500) then (some 2) else (bi (rangeM (σ := Unit) (ρ := Int) (fun i3 x5 s4 => bi (m_laneref2_Key x5.A) fun y14 => bi (bif !y14 then (some true) else (bi (m_laneref2_Key x5.v_B) fun y20 => some (!y20))) fun q16 => bif q16 then (bi (some 5) fun v => some (.out v)) else (bif !(Op.bytesLess x5.A x5.v_B) then (bi (some 7) fun v => some (.out v)) else (bi (m_laneref1_in x5.Millis 0 1000000) fun y30 => bif !y30 then (bi (some 1) fun v => some (.out v)) else (bi (bif decide (((i3 : Int) : Int) > 0) then (bi (getZ l (wi ((i3 : Int) - 1))) fun x39 => bi (m_strings_Compare x39.A x5.A) fun y41 => bi (getZ l (wi ((i3 : Int) - 1))) fun x43 => bi (m_strings_Compare x43.v_B x5.v_B) fun y45 => bi (m_cmp_Or_int [y41, y45]) fun y47 => some (decide ((y47 : Int) ≥ 0))) else (some false)) fun q36 => bif q36 then (bi (some 7) fun v => some (.out v)) else (some (.go ())))))) 0 l ()) fun q => goI q fun a8 => some 0)

def m_laneref1_keyFault (s : Str) : Option Int :=
  bi (m_laneref2_Key s) fun y1 => bif !y1 then (some 5) else (some 0)

def m_laneref1_KeyFault (s : Str) : Option Int :=
  bi (m_laneref1_keyFault s) fun y1 => some y1

def m_cmp_Or_api_Errno (vals : List Int) : Option Int :=
  bi (rangeM (σ := Unit) (ρ := Int) (fun i1 x3 s2 => bif (x3 : Int) != 0 then (bi (some x3) fun v => some (.out v)) else (some (.go ()))) 0 vals ()) fun q => goI q fun a6 => some 0

def m_slices_Index_string_string (s : List Str) (v : Str) : Option Int :=
  bi (rangeM (σ := Unit) (ρ := Int) (fun i1 x3 s2 => bif (v : Str) == x3 then (bi (some (i1 : Int)) fun v => some (.out v)) else (some (.go ()))) 0 s ()) fun q => goI q fun a6 => some (-1)

def m_slices_Contains_string_string (s : List Str) (v : Str) : Option Bool :=
  bi (m_slices_Index_string_string s v) fun y1 => some (decide ((y1 : Int) ≥ 0))

def m_slices_Clone_string_string (s : List Str) : Option (List Str) :=
  bi (apd ([] : List Str) s) fun y1 => some y1

def m_cmp_isNaN_int (x : Int) : Option Bool :=
  some ((x : Int) != x)

def m_cmp_Compare_int (x : Int) (y : Int) : Option Int :=
  bi (m_cmp_isNaN_int x) fun y1 => bi (m_cmp_isNaN_int y) fun y3 => bif y1 then (bif y3 then (some 0) else (some (-1))) else (bif y3 then (some 1) else (bif decide ((x : Int) < y) then (some (-1)) else (bif decide ((x : Int) > y) then (some 1) else (some 0))))

def m_cmp_isNaN_string (x : Str) : Option Bool :=
  some (!((x : Str) == x))

def m_cmp_Compare_string (x : Str) (y : Str) : Option Int :=
  bi (m_cmp_isNaN_string x) fun y1 => bi (m_cmp_isNaN_string y) fun y3 => bif y1 then (bif y3 then (some 0) else (some (-1))) else (bif y3 then (some 1) else (bif Op.bytesLess x y then (some (-1)) else (bif !(Op.bytesLess x y || (x : Str) == y) then (some 1) else (some 0))))

def m_slices_Compare_string_string (s1 : List Str) (s2 : List Str) : Option Int :=
  bi (rangeM (σ := Unit) (ρ := Int) (fun i1 x4 s3 => bif decide (((i1 : Int) : Int) ≥ (s2.length : Int)) then (bi (some 1) fun v => some (.out v)) else (bi (getZ s2 (i1 : Int)) fun x17 => bi (m_cmp_Compare_string x4 x17) fun y19 => bif (y19 : Int) != 0 then (bi (some y19) fun v => some (.out v)) else (some (.go ())))) 0 s1 ()) fun q => goI q fun a7 => bif decide (((s1.length : Int) : Int) < (s2.length : Int)) then (some (-1)) else (some 0)

def m_laneref1_lessTrail (a : T_laneref1_trail) (b : T_laneref1_trail) : Option Bool :=
  bi (m_cmp_Compare_int a.millis b.millis) fun y1 => bi (m_cmp_Compare_int (a.relays.length : Int) (b.relays.length : Int)) fun y3 => bi (m_slices_Compare_string_string a.relays b.relays) fun y5 => bi (m_cmp_Or_int [y1, y3, y5]) fun y7 => some (decide ((y7 : Int) < 0))

def m_laneref1_TrailOf (k : Nat) (l : List T_api_Link) (a : Str) (b : Str) : Option ((List Str) × Int × Bool) :=
  bi (loopM (σ := (List (Str × T_laneref1_trail)) × Bool) (ρ := List (Str × T_laneref1_trail)) (fun s2 => bif s2.2 then (bi (rangeF (σ := (List (Str × T_laneref1_trail)) × Bool) (fun i12 x14 s13 => bi (rangeF (σ := (List (Str × T_laneref1_trail)) × Bool) (fun i23 x25 s24 => bi (bif !((mGet s24.1 x25.1).isSome) then (some true) else (bi (m_slices_Contains_string_string (((mGet s24.1 x25.1).getD (⟨[], 0⟩ : T_laneref1_trail)).relays) x25.2) fun y38 => some y38)) fun q34 => bif q34 then (some (s24.1, s24.2)) else (bi (m_slices_Clone_string_string (((mGet s24.1 x25.1).getD (⟨[], 0⟩ : T_laneref1_trail)).relays)) fun y42 => bi (apd y42 [x25.2]) fun y44 => bi (bif !((mGet s24.1 x25.2).isSome) then (some true) else (bi (m_laneref1_lessTrail (⟨y44, wi ((((mGet s24.1 x25.1).getD (⟨[], 0⟩ : T_laneref1_trail)).millis) + x14.Millis)⟩ : T_laneref1_trail) ((mGet s24.1 x25.2).getD (⟨[], 0⟩ : T_laneref1_trail))) fun y50 => some y50)) fun q46 => bif q46 then (some ((mSet s24.1 x25.2 (⟨y44, wi ((((mGet s24.1 x25.1).getD (⟨[], 0⟩ : T_laneref1_trail)).millis) + x14.Millis)⟩ : T_laneref1_trail)), true)) else (some (s24.1, s24.2)))) 0 [(x14.A, x14.v_B), (x14.v_B, x14.A)] (s13.1, s13.2)) fun q26 => some (q26.1, q26.2)) 0 l (s2.1, false)) fun q15 => some (.go (q15.1, q15.2))) else (some (.out s2.1))) k ((mSet ([] : List (Str × T_laneref1_trail)) a (⟨[a], 0⟩ : T_laneref1_trail)), true)) fun q4 => some (((mGet q4 b).getD (⟨[], 0⟩ : T_laneref1_trail)).relays, ((mGet q4 b).getD (⟨[], 0⟩ : T_laneref1_trail)).millis, (mGet q4 b).isSome)

def m_lanelaw1_when (is : Bool) (e : Int) : Option Int :=
  bif is then (some e) else (some 0)

def m_slices_Equal_string_string (s1 : List Str) (s2 : List Str) : Option Bool :=
  bif ((s1.length : Int) : Int) != (s2.length : Int) then (some false) else (bi (rangeM (σ := Unit) (ρ := Bool) (fun i3 x5 s4 => bi (getZ s2 (i3 : Int)) fun x14 => bif !((x5 : Str) == x14) then (bi (some false) fun v => some (.out v)) else (some (.go ()))) 0 s1 ()) fun q => goI q fun a8 => some true)

def m_kit_IsMoment (n : Int) : Option Bool :=
  some ((decide ((n : Int) ≥ 0)) && (decide ((n : Int) < 345686400)))

def m_route_CheckProbes (k : Nat) (l : List T_api_Probe) : Option Int :=
  bif decide (((l.length : Int) : Int) > 2000) then (some 2) else (bi (rangeM (σ := Unit) (ρ := Int) (fun i3 x5 s4 => bi (m_kit_IsMoment x5.At) fun y14 => bif !y14 then (bi (some 1) fun v => some (.out v)) else (bi (m_kit_IsKey k x5.Node) fun y20 => bi (bif !y20 then (some true) else (bi (m_kit_IsKey k x5.Relay) fun y26 => some (!y26))) fun q22 => bif q22 then (bi (some 5) fun v => some (.out v)) else (bi (m_kit_Outside x5.Millis (-1) 1000000) fun y32 => bif y32 then (bi (some 1) fun v => some (.out v)) else (bif ((i3 : Int) : Int) == 0 then (some (.go ())) else (bi (getZ l (wi ((i3 : Int) - 1))) fun x40 => bi (m_cmp_Compare_int x40.At x5.At) fun y42 => bi (m_strings_Compare x40.Node x5.Node) fun y44 => bi (m_strings_Compare x40.Relay x5.Relay) fun y46 => bi (m_cmp_Or_int [y42, y44, y46]) fun y48 => bif decide ((y48 : Int) ≥ 0) then (bi (some 7) fun v => some (.out v)) else (some (.go ()))))))) 0 l ()) fun q => goI q fun a8 => some 0)

def m_route_gainFault (gain : Int) : Option Int :=
  bi (m_kit_Outside gain 0 1000000) fun y1 => bif y1 then (some 1) else (some 0)

def m_slices_Clone_api_Probe_api_Probe (s : List T_api_Probe) : Option (List T_api_Probe) :=
  bi (apd ([] : List T_api_Probe) s) fun y1 => some y1

def m_route_homes_1 (p : T_api_Probe) (x : Str) : Option Bool :=
  some (!((p.Node : Str) == x))

def m_slices_IndexFunc_api_Probe_api_Probe (s : List T_api_Probe) (f : Str) : Option Int :=
  bi (gd (decide ((s.length : Int) ≤ 9223372036854775807)) (rangeI (σ := Unit) (ρ := Int) (fun i1 s2 => bi (getZ s (i1 : Int)) fun x13 => bi (m_route_homes_1 x13 f) fun y16 => bif y16 then (bi (some (i1 : Int)) fun v => some (.out v)) else (some (.go ()))) (s.length : Int) ())) fun q => goI q fun a6 => some (-1)

def m_slices_DeleteFunc_api_Probe_api_Probe (k : Nat) (s : List T_api_Probe) (f : Str) : Option (List T_api_Probe) :=
  bi (m_slices_IndexFunc_api_Probe_api_Probe s f) fun y1 => bif (y1 : Int) == (-1) then (some s) else (bi (loopM (σ := (List T_api_Probe) × Int × Int) (ρ := (List T_api_Probe) × Int) (fun s6 => bif decide ((s6.2.2 : Int) < (s6.1.length : Int)) then (bi (getZ s6.1 s6.2.2) fun x16 => bi (m_route_homes_1 x16 f) fun y19 => bif !y19 then (bi (getZ s6.1 s6.2.1) fun x22 => some (.go (s6.1.set s6.2.1.toNat x16, wi (s6.2.1 + 1), wi (s6.2.2 + 1)))) else (some (.go (s6.1, s6.2.1, wi (s6.2.2 + 1))))) else (some (.out (s6.1, s6.2.1)))) k (s, y1, wi (y1 + 1))) fun q8 => bi (subZ q8.1 q8.2 (q8.1.length : Int)) fun z27 => some (q8.1.take q8.2.toNat))

def m_route_choose (answers : List (Str × Int)) (now : Str) (gain : Int) : Option Str :=
  bi (rangeP (σ := Str) (fun x8 s7 => bif ((((s7 : Str) == []) || (decide ((x8.2 : Int) < ((mGet answers s7).getD 0)))) || (((x8.2 : Int) == ((mGet answers s7).getD 0)) && (Op.bytesLess x8.1 s7))) then (some x8.1) else (some s7)) answers []) fun q12 => bif (((mGet answers now).isSome) && (decide ((wi (((mGet answers now).getD 0) - ((mGet answers q12).getD 0)) : Int) < gain))) then (some now) else (some q12)

def m_route_begins (l : List T_api_Turn) (v_at : Int) (who : Str) : Option (List T_api_Turn) :=
  bi (bif decide ((wi ((l.length : Int) - 1) : Int) ≥ 0) then (bi (getZ l (wi ((l.length : Int) - 1))) fun x4 => some ((x4.To : Int) == 345686400)) else (some false)) fun q1 => bi (bif q1 then (bi (getZ l (wi ((l.length : Int) - 1))) fun x12 => bif (x12.Who : Str) == who then (bi (some l) fun v => some (.inr v)) else (bi (getZ l (wi ((l.length : Int) - 1))) fun x19 => bi (getZ (l.set ((wi ((l.length : Int) - 1)).toNat) (⟨x19.Who, x19.From, v_at⟩ : T_api_Turn)) (wi ((l.length : Int) - 1))) fun x22 => bif (x22.From : Int) == v_at then (bi (subZ (l.set ((wi ((l.length : Int) - 1)).toNat) (⟨x19.Who, x19.From, v_at⟩ : T_api_Turn)) 0 (wi ((l.length : Int) - 1))) fun z26 => some (.inl z26)) else (some (.inl (l.set ((wi ((l.length : Int) - 1)).toNat) (⟨x19.Who, x19.From, v_at⟩ : T_api_Turn)))))) else (some (.inl l)) : Option ((List T_api_Turn) ⊕ (List T_api_Turn))) fun q => orI q fun a10 => bif (who : Str) == [] then (some a10) else (bi (apd a10 [(⟨who, v_at, 345686400⟩ : T_api_Turn)]) fun y32 => some y32)

def m_route_homes (k : Nat) (l : List T_api_Probe) (gain : Int) (node : Str) : Option (List T_api_Turn) :=
  bi (m_slices_Clone_api_Probe_api_Probe l) fun y1 => bi (m_slices_DeleteFunc_api_Probe_api_Probe k y1 node) fun y3 => bi (loopM (σ := (List T_api_Turn) × Str × Int) (ρ := List T_api_Turn) (fun s6 => bif decide ((s6.2.2 : Int) < (y3.length : Int)) then (bi (getZ y3 s6.2.2) fun x16 => bi (loopM (σ := (List (Str × Int)) × Int) (ρ := (List (Str × Int)) × Int) (fun s20 => bi (bif decide ((s20.2 : Int) < (y3.length : Int)) then (bi (getZ y3 s20.2) fun x32 => some ((x32.At : Int) == x16.At)) else (some false)) fun q29 => bif q29 then (bi (getZ y3 s20.2) fun x37 => bif decide ((x37.Millis : Int) ≥ 0) then (bi (getZ y3 s20.2) fun x41 => bi (getZ y3 s20.2) fun x44 => some (.go ((mSet s20.1 x41.Relay x44.Millis), wi (s20.2 + 1)))) else (some (.go (s20.1, wi (s20.2 + 1))))) else (some (.out (s20.1, s20.2)))) k (([] : List (Str × Int)), s6.2.2)) fun q22 => bif ((q22.1.length : Int) : Int) == 0 then (some (.go (s6.1, s6.2.1, q22.2))) else (bi (m_route_choose q22.1 s6.2.1 gain) fun y51 => bi (m_route_begins s6.1 x16.At y51) fun y53 => some (.go (y53, y51, q22.2)))) else (some (.out s6.1))) k (([] : List T_api_Turn), [], 0)) fun q8 => some q8

def m_route_whoAt (l : List T_api_Turn) (v_at : Int) : Option Str :=
  bi (rangeM (σ := Unit) (ρ := Str) (fun i1 x3 s2 => bif ((decide ((x3.From : Int) ≤ v_at)) && (decide ((v_at : Int) < x3.To))) then (bi (some x3.Who) fun v => some (.out v)) else (some (.go ()))) 0 l ()) fun q => goI q fun a6 => some []

def m_route_told (l : List T_api_Probe) (node : Str) (relay : Str) (v_at : Int) : Option Int :=
  bi (rangeF (σ := Int) (fun i1 x3 s2 => bif ((((decide ((x3.At : Int) ≤ v_at)) && ((x3.Node : Str) == node)) && ((x3.Relay : Str) == relay)) && (decide ((x3.Millis : Int) ≥ 0))) then (some x3.Millis) else (some s2)) 0 l 0) fun q4 => some q4

def m_route_Relayed (k : Nat) (l : List T_api_Probe) (links : List T_api_Link) (gain : Int) (a : Str) (b : Str) (v_at : Int) (al : BagT) : Option ((List Str) × Int × Int × BagT) :=
  bi (m_route_CheckProbes k l) fun y1 => bif (y1 : Int) != 0 then (some ([], 0, y1, al)) else (bi (m_route_CheckLinks k links) fun y5 => bif (y5 : Int) != 0 then (some ([], 0, y5, al)) else (bi (m_route_gainFault gain) fun y9 => bif (y9 : Int) != 0 then (some ([], 0, y9, al)) else (bi (m_kit_IsKey k a) fun y13 => bi (bif !y13 then (some true) else (bi (m_kit_IsKey k b) fun y19 => some (!y19))) fun q15 => bif q15 then (some ([], 0, 5, al)) else (bif (a : Str) == b then (some ([], 0, 6, al)) else (bi (m_kit_IsMoment v_at) fun y25 => bif !y25 then (some ([], 0, 1, al)) else (bi (m_route_homes k l gain a) fun y29 => bi (m_route_whoAt y29 v_at) fun y31 => bi (m_route_homes k l gain b) fun y33 => bi (m_route_whoAt y33 v_at) fun y35 => bif (((y31 : Str) == []) || ((y35 : Str) == [])) then (some ([], 0, 8, al)) else (bi (m_route_through k links y31 y35 al) fun y39 => bif (y39.2.2.1 : Int) != 0 then (some ([], 0, y39.2.2.1, y39.2.2.2)) else (bi (m_route_told l a y31 v_at) fun y43 => bi (divZ .i64 y43 2) fun y45 => bi (m_route_told l b y35 v_at) fun y47 => bi (divZ .i64 y47 2) fun y49 => some (y39.1, wi ((wi (y39.2.1 + y45)) + y49), 0, y39.2.2.2)))))))))

def m_laneref2_Moment (v_at : Int) : Option Bool :=
  bi (m_laneref2_in v_at 0 345686399) fun y1 => some y1

def m_laneref1_ProbesFault (l : List T_api_Probe) : Option Int :=
  bif decide (((l.length : Int) : Int) > 2000) then (some 2) else (bi (rangeM (σ := Unit) (ρ := Int) (fun i3 x5 s4 => bi (m_laneref2_Moment x5.At) fun y14 => bif !y14 then (bi (some 1) fun v => some (.out v)) else (bi (m_laneref2_Key x5.Node) fun y20 => bi (bif !y20 then (some true) else (bi (m_laneref2_Key x5.Relay) fun y26 => some (!y26))) fun q22 => bif q22 then (bi (some 5) fun v => some (.out v)) else (bi (m_laneref1_in x5.Millis (-1) 1000000) fun y32 => bif !y32 then (bi (some 1) fun v => some (.out v)) else (bi (bif decide (((i3 : Int) : Int) > 0) then (bi (getZ l (wi ((i3 : Int) - 1))) fun x41 => bi (m_cmp_Compare_int x41.At x5.At) fun y43 => bi (getZ l (wi ((i3 : Int) - 1))) fun x45 => bi (m_strings_Compare x45.Node x5.Node) fun y47 => bi (getZ l (wi ((i3 : Int) - 1))) fun x49 => bi (m_strings_Compare x49.Relay x5.Relay) fun y51 => bi (m_cmp_Or_int [y43, y47, y51]) fun y53 => some (decide ((y53 : Int) ≥ 0))) else (some false)) fun q38 => bif q38 then (bi (some 7) fun v => some (.out v)) else (some (.go ())))))) 0 l ()) fun q => goI q fun a8 => some 0)

def m_laneref1_GainFault (gain : Int) : Option Int :=
  bi (m_laneref1_in gain 0 1000000) fun y1 => bif !y1 then (some 1) else (some 0)

def m_laneref1_MomentFault (v_at : Int) : Option Int :=
  bi (m_laneref2_Moment v_at) fun y1 => bif !y1 then (some 1) else (some 0)

def m_lanelaw1_routed (k : Nat) (al : BagT) : Option (Bool × BagT) :=
  bi (m_route_Through k [(⟨[97], [98], 3⟩ : T_api_Link)] [98] [97] al) fun y1 => bi (bif (((y1.2.2.1 : Int) == 0) && ((y1.2.1 : Int) == 3)) then (bi (m_slices_Equal_string_string y1.1 [[98], [97]]) fun y6 => some y6) else (some false)) fun q3 => some (q3, y1.2.2.2)

def m_laneref1_addTurn (l : List T_api_Turn) (who : Str) (v_from : Int) (to : Int) : Option (List T_api_Turn) :=
  bif (((who : Str) == []) || (decide ((v_from : Int) ≥ to))) then (some l) else (bi (bif decide (((l.length : Int) : Int) > 0) then (bi (getZ l (wi ((l.length : Int) - 1))) fun x6 => some ((x6.Who : Str) == who)) else (some false)) fun q3 => bi (bif q3 then (bi (getZ l (wi ((l.length : Int) - 1))) fun x13 => some ((x13.To : Int) == v_from)) else (some false)) fun q10 => bif q10 then (bi (getZ l (wi ((l.length : Int) - 1))) fun x18 => some (l.set ((wi ((l.length : Int) - 1)).toNat) (⟨x18.Who, x18.From, to⟩ : T_api_Turn))) else (bi (apd l [(⟨who, v_from, to⟩ : T_api_Turn)]) fun y22 => some y22))

def m_laneref1_HomeTurns (l : List T_api_Probe) (gain : Int) (node : Str) (al : BagT) : Option ((List T_api_Turn) × BagT) :=
  bi (rangeF (σ := BagT × (List (Int × Nat)) × (List Int)) (fun i1 x3 s2 => bif !((x3.Node : Str) == node) then (some (s2.1, s2.2.1, s2.2.2)) else (bi (bif (((mGet s2.2.1 x3.At).getD 0) == 0) then (bi (apd s2.2.2 [x3.At]) fun y17 => some (((s2.1.1 ++ [false]), ((s2.1.1.length, ([] : List (Str × Int))) :: s2.1.2)), (mSet s2.2.1 x3.At (s2.1.1.length + 1)), y17)) else (some (s2.1, s2.2.1, s2.2.2))) fun q14 => bif decide ((x3.Millis : Int) ≥ 0) then (bi (hGet q14.1.2 ((mGet q14.2.1 x3.At).getD 0)) fun m21 => some ((q14.1.1, (hSet q14.1.2 ((mGet q14.2.1 x3.At).getD 0) (mSet m21 x3.Relay x3.Millis))), q14.2.1, q14.2.2)) else (some (q14.1, q14.2.1, q14.2.2)))) 0 l (al, ([] : List (Int × Nat)), ([] : List Int))) fun q4 => bi (apd q4.2.2 [345686400]) fun y24 => bi (subZ y24 0 (wi ((y24.length : Int) - 1))) fun z26 => bi (rangeF (σ := (List T_api_Turn) × Str) (fun i28 x30 s29 => bi (hGet q4.1.2 ((mGet q4.2.1 x30).getD 0)) fun m39 => bi (rangeP (σ := Str) (fun x48 s47 => bif ((((s47 : Str) == []) || (decide ((x48.2 : Int) < ((mGet m39 s47).getD 0)))) || (((x48.2 : Int) == ((mGet m39 s47).getD 0)) && (Op.bytesLess x48.1 s47))) then (some x48.1) else (some s47)) m39 []) fun q52 => bi (hGet q4.1.2 ((mGet q4.2.1 x30).getD 0)) fun m56 => bi (bif !((q52 : Str) == []) then (bi (bif (mGet m56 s29.2).isSome then (bi (hGet q4.1.2 ((mGet q4.2.1 x30).getD 0)) fun m64 => some (decide ((wi (((mGet m56 s29.2).getD 0) - ((mGet m64 q52).getD 0)) : Int) < gain))) else (some false)) fun q61 => some (!q61)) else (some false)) fun q58 => bi (bif q58 then (some q52) else (some s29.2)) fun q68 => bi (getZ y24 (wi ((i28 : Int) + 1))) fun x72 => bi (m_laneref1_addTurn s29.1 q68 x30 x72) fun y74 => some (y74, q68)) 0 z26 (([] : List T_api_Turn), [])) fun q31 => some (q31.1, q4.1)

def m_laneref1_turnAt (l : List T_api_Turn) (v_at : Int) : Option Str :=
  bi (rangeM (σ := Unit) (ρ := Str) (fun i1 x3 s2 => bif ((decide ((x3.From : Int) ≤ v_at)) && (decide ((v_at : Int) < x3.To))) then (bi (some x3.Who) fun v => some (.out v)) else (some (.go ()))) 0 l ()) fun q => goI q fun a6 => some []

def m_laneref1_HomeAt (l : List T_api_Probe) (gain : Int) (node : Str) (v_at : Int) (al : BagT) : Option (Str × BagT) :=
  bi (m_laneref1_HomeTurns l gain node al) fun y1 => bi (m_laneref1_turnAt y1.1 v_at) fun y3 => some (y3, y1.2)

def m_laneref1_lastMillis (l : List T_api_Probe) (node : Str) (relay : Str) (v_at : Int) : Option Int :=
  bi (rangeF (σ := Int) (fun i1 x3 s2 => bif (((((x3.Node : Str) == node) && ((x3.Relay : Str) == relay)) && (decide ((x3.At : Int) ≤ v_at))) && (decide ((x3.Millis : Int) ≥ 0))) then (some x3.Millis) else (some s2)) 0 l 0) fun q4 => some q4

def m_laneref1_RelayedAt (k : Nat) (l : List T_api_Probe) (links : List T_api_Link) (gain : Int) (a : Str) (b : Str) (v_at : Int) (al : BagT) : Option ((List Str) × Int × Bool × BagT) :=
  bi (m_laneref1_HomeAt l gain a v_at al) fun y1 => bi (m_laneref1_HomeAt l gain b v_at y1.2) fun y3 => bif (((y1.1 : Str) == []) || ((y3.1 : Str) == [])) then (some ([], 0, false, y3.2)) else (bi (m_laneref1_TrailOf k links y1.1 y3.1) fun y7 => bif !y7.2.2 then (some ([], 0, false, y3.2)) else (bi (m_laneref1_lastMillis l a y1.1 v_at) fun y11 => bi (divZ .i64 y11 2) fun y13 => bi (m_laneref1_lastMillis l b y3.1 v_at) fun y15 => bi (divZ .i64 y15 2) fun y17 => some (y7.1, wi ((wi (y7.2.1 + y13)) + y17), true, y3.2)))

def m_lanelaw1_RelaysJoin (k : Nat) (l : List Int) (al : BagT) : Option (Bool × BagT) :=
  bi (m_lanemake_Stream_Links (⟨l, 0⟩ : T_lanemake_Stream)) fun y1 => bi (m_lanemake_Stream_Some y1.2 [[102, 114, 97], [108, 111, 110], [110, 121, 99], [122, 122], []]) fun y3 => bi (m_lanemake_Stream_Some y3.2 [[102, 114, 97], [115, 121, 100], [116, 111, 107], [65]]) fun y5 => bi (m_lanemake_Stream_Range y5.2 0 4) fun y7 => bi (m_lanemake_Stream_Probes y7.2 y7.1) fun y9 => bi (m_lanemake_Stream_Pick y9.2 [0, 5, -1]) fun y11 => bi (m_lanemake_Stream_Some y11.2 [[110, 97], [110, 97], []]) fun y13 => bi (m_lanemake_Stream_Some y13.2 [[110, 98], [110, 98], [110, 97]]) fun y15 => bi (m_lanemake_Stream_Pick y15.2 [0, 10, 30, -1]) fun y17 => bi (m_route_Through k y1.1 y3.1 y5.1 al) fun y19 => bi (m_laneref1_LinksFault y1.1) fun y21 => bi (m_route_CheckLinks k y1.1) fun y23 => bif (y23 : Int) != y21 then (some (false, y19.2.2.2)) else (bi (m_laneref1_KeyFault y3.1) fun y27 => bi (m_laneref1_KeyFault y5.1) fun y29 => bi (m_cmp_Or_api_Errno [y21, y27, y29]) fun y31 => bi (bif (y31 : Int) == 0 then (bi (m_laneref1_TrailOf k y1.1 y3.1 y5.1) fun y36 => bi (m_lanelaw1_when (!y36.2.2) 8) fun y38 => bif y36.2.2 then (some (y38, y36.1, y36.2.1)) else (some (y38, [], 0))) else (some (y31, [], 0))) fun q33 => bi (bif (y19.2.2.1 : Int) != q33.1 then (some true) else (bi (m_slices_Equal_string_string y19.1 q33.2.1) fun y47 => some (!y47))) fun q43 => bif (q43 || ((y19.2.1 : Int) != q33.2.2)) then (some (false, y19.2.2.2)) else (bi (m_route_Relayed k y9.1 y1.1 y11.1 y13.1 y15.1 y17.1 y19.2.2.2) fun y51 => bi (m_laneref1_ProbesFault y9.1) fun y53 => bi (m_laneref1_GainFault y11.1) fun y55 => bi (m_laneref1_KeyFault y13.1) fun y57 => bi (m_laneref1_KeyFault y15.1) fun y59 => bi (m_lanelaw1_when ((y13.1 : Str) == y15.1) 6) fun y61 => bi (m_laneref1_MomentFault y17.1) fun y63 => bi (m_cmp_Or_api_Errno [y53, y21, y55, y57, y59, y61, y63]) fun y65 => bif (y65 : Int) != 0 then (bi (bif ((((y51.2.2.1 : Int) == y65) && (((y51.1.length : Int) : Int) == 0)) && ((y51.2.1 : Int) == 0)) then (bi (m_lanelaw1_routed k y51.2.2.2) fun y71 => some (y71.2, y71.1)) else (some (y51.2.2.2, false))) fun q68 => some (q68.2, q68.1)) else (bi (m_laneref1_RelayedAt k y9.1 y1.1 y11.1 y13.1 y15.1 y17.1 y51.2.2.2) fun y75 => bi (m_lanelaw1_when (!y75.2.2.1) 8) fun y77 => bi (bif (y51.2.2.1 : Int) == y77 then (bi (m_slices_Equal_string_string y51.1 y75.1) fun y82 => some y82) else (some false)) fun q79 => bi (bif (q79 && ((y51.2.1 : Int) == y75.2.1)) then (bi (m_lanelaw1_routed k y75.2.2.2) fun y88 => some (y88.2, y88.1)) else (some (y75.2.2.2, false))) fun q85 => some (q85.2, q85.1))))

end
end Go.Gk
