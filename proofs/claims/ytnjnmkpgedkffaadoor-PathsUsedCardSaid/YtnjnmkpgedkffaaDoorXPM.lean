/-
  Models of functions.
-/
import Derived.Test.YtnjnmkpgedkffaaDoorMStr3
set_option linter.unusedVariables false
namespace Go.Gk
noncomputable section
structure T_lanemake_Stream where
  L : List Int
  v_at : Int
  deriving DecidableEq
structure T_api_Sample where
  At : Int
  Path : Str
  Millis : Int
  deriving DecidableEq
structure T_api_Turn where
  Who : Str
  From : Int
  To : Int
  deriving DecidableEq
structure T_api_Link where
  A : Str
  v_B : Str
  Millis : Int
  deriving DecidableEq
structure T_route_step where
  to : Str
  millis : Int
  deriving DecidableEq
structure T_route_far where
  millis : Int
  links : Int
  deriving DecidableEq

def m_lanemake_Below (x : Int) (n : Int) : Option Int :=
  bif decide ((n : Int) < 1) then (some 0) else (bi (remZ x n) fun y3 => bi (bif decide ((y3 : Int) < 0) then (some (wi (y3 + n))) else (some y3)) fun q5 => some q5)

def m_lanemake_Stream_Next (s : T_lanemake_Stream) (n : Int) : Option (Int × T_lanemake_Stream) :=
  bif ((s.L.length : Int) : Int) == 0 then (bi (m_lanemake_Below (wi ((wi (s.v_at + 1)) * 7919)) n) fun y2 => some (y2, (⟨s.L, wi (s.v_at + 1)⟩ : T_lanemake_Stream))) else (bi (remZ (wi ((wi (s.v_at + 1)) - 1)) (s.L.length : Int)) fun y5 => bi (divZ .i64 (wi ((wi (s.v_at + 1)) - 1)) (s.L.length : Int)) fun y7 => bi (getZ s.L y5) fun x9 => bi (m_lanemake_Below x9 1073741824) fun y11 => bi (m_lanemake_Below (wi (y11 + (wi (y7 * (wi (7919 + y5)))))) n) fun y13 => some (y13, (⟨s.L, wi (s.v_at + 1)⟩ : T_lanemake_Stream)))

def m_lanemake_Stream_Range (s : T_lanemake_Stream) (low : Int) (high : Int) : Option (Int × T_lanemake_Stream) :=
  bif decide ((high : Int) < low) then (some (low, s)) else (bi (m_lanemake_Stream_Next s (wi ((wi (high - low)) + 1))) fun y3 => some (wi (low + y3.1), y3.2))

def m_lanemake_Stream_Pick (s : T_lanemake_Stream) (l : List Int) : Option (Int × T_lanemake_Stream) :=
  bi (m_lanemake_Stream_Next s (l.length : Int)) fun y1 => bi (getZ l y1.1) fun x3 => some (x3, y1.2)

def m_lanemake_Stream_Flip (s : T_lanemake_Stream) (n : Int) : Option (Bool × T_lanemake_Stream) :=
  bi (m_lanemake_Stream_Next s n) fun y1 => some ((y1.1 : Int) == 0, y1.2)

def m_lanemake_Stream_Odd (s : T_lanemake_Stream) (low : Int) (high : Int) : Option (Int × T_lanemake_Stream) :=
  bi (m_lanemake_Stream_Flip s 12) fun y1 => bif y1.1 then (bi (m_lanemake_Stream_Pick y1.2 [wi (low - 1), wi (high + 1), low, high, -1099511627776, 1099511627776]) fun y4 => some (y4.1, y4.2)) else (bi (m_lanemake_Stream_Range y1.2 low high) fun y7 => some (y7.1, y7.2))

def m_lanemake_Stream_Some (s : T_lanemake_Stream) (l : List Str) : Option (Str × T_lanemake_Stream) :=
  bi (m_lanemake_Stream_Next s (l.length : Int)) fun y1 => bi (getZ l y1.1) fun x3 => some (x3, y1.2)

def m_lanemake_Stream_Samples (s : T_lanemake_Stream) (many : Int) : Option ((List T_api_Sample) × T_lanemake_Stream) :=
  bi (gd (decide (many ≤ 9223372036854775807)) (rangeG (σ := T_lanemake_Stream × (List T_api_Sample) × Int) (fun i1 s2 => bi (m_lanemake_Stream_Pick s2.1 [1, 1, 5, 20]) fun y13 => bi (rangeF (σ := T_lanemake_Stream × (List T_api_Sample)) (fun i15 x17 s16 => bi (m_lanemake_Stream_Flip s16.1 2) fun y26 => bif y26.1 then (bi (m_lanemake_Stream_Pick y26.2 [-1, 3, 5, 8, 8, 12]) fun y29 => bi (apd s16.2 [(⟨wi (s2.2.2 + y13.1), x17, y29.1⟩ : T_api_Sample)]) fun y31 => some (y29.2, y31)) else (some (y26.2, s16.2))) 0 [[112], [113], [114]] (y13.2, s2.2.1)) fun q18 => some (q18.1, q18.2, wi (s2.2.2 + y13.1))) many (s, ([] : List T_api_Sample), 0))) fun q4 => bi (m_lanemake_Stream_Flip q4.1 20) fun y34 => bi (bif y34.1 then (bi (m_lanemake_Stream_Odd y34.2 0 100) fun y39 => bi (m_lanemake_Stream_Some y39.2 [[], [112]]) fun y41 => bi (m_lanemake_Stream_Odd y41.2 (-1) 100) fun y43 => bi (apd q4.2.1 [(⟨y39.1, y41.1, y43.1⟩ : T_api_Sample)]) fun y45 => some (y43.2, y45)) else (some (y34.2, q4.2.1))) fun q36 => some (q36.2, q36.1)

def m_kit_IsMoment (n : Int) : Option Bool :=
  some ((decide ((n : Int) ≥ 0)) && (decide ((n : Int) < 345686400)))

def m_kit_IsKey (k : Nat) (s : Str) : Option Bool :=
  bi (loopM (σ := Int) (ρ := Unit ⊕ Bool) (fun s2 => bif decide ((s2 : Int) < (s.length : Int)) then (bi (getZ s s2) fun c12 => bif !(((decide (((c12.toNat : Int) : Int) ≥ 97)) && (decide (((c12.toNat : Int) : Int) ≤ 122))) || ((decide ((s2 : Int) > 0)) && ((((decide (((c12.toNat : Int) : Int) ≥ 48)) && (decide (((c12.toNat : Int) : Int) ≤ 57))) || (((c12.toNat : Int) : Int) == 45)) || (((c12.toNat : Int) : Int) == 95)))) then (bi (some false) fun v => some (.out (.inr v))) else (some (.go (wi (s2 + 1))))) else (some (.out (.inl ())))) k 0) fun q => orI q fun a6 => some ((!((s : Str) == [])) && (decide (((s.length : Int) : Int) ≤ 40)))

def m_kit_Outside (n : Int) (low : Int) (high : Int) : Option Bool :=
  some ((decide ((n : Int) < low)) || (decide ((n : Int) > high)))

def m_cmp_isNaN_int (x : Int) : Option Bool :=
  some ((x : Int) != x)

def m_cmp_Compare_int (x : Int) (y : Int) : Option Int :=
  bi (m_cmp_isNaN_int x) fun y1 => bi (m_cmp_isNaN_int y) fun y3 => bif y1 then (bif y3 then (some 0) else (some (-1))) else (bif y3 then (some 1) else (bif decide ((x : Int) < y) then (some (-1)) else (bif decide ((x : Int) > y) then (some 1) else (some 0))))

def m_cmp_Or_int (vals : List Int) : Option Int :=
  bi (rangeM (σ := Unit) (ρ := Int) (fun i1 x3 s2 => bif (x3 : Int) != 0 then (bi (some x3) fun v => some (.out v)) else (some (.go ()))) 0 vals ()) fun q => goI q fun a6 => some 0

def m_route_CheckSamples (k : Nat) (l : List T_api_Sample) : Option Int :=
  bif decide (((l.length : Int) : Int) > 2000) then (some 2) else (bi (rangeM (σ := Unit) (ρ := Int) (fun i3 x5 s4 => bi (m_kit_IsMoment x5.At) fun y14 => bif !y14 then (bi (some 1) fun v => some (.out v)) else (bi (m_kit_IsKey k x5.Path) fun y20 => bif !y20 then (bi (some 5) fun v => some (.out v)) else (bi (m_kit_Outside x5.Millis (-1) 1000000) fun y26 => bif y26 then (bi (some 1) fun v => some (.out v)) else (bi (bif decide (((i3 : Int) : Int) > 0) then (bi (getZ l (wi ((i3 : Int) - 1))) fun x35 => bi (m_cmp_Compare_int x35.At x5.At) fun y37 => bi (getZ l (wi ((i3 : Int) - 1))) fun x39 => bi (m_strings_Compare x39.Path x5.Path) fun y41 => bi (m_cmp_Or_int [y37, y41]) fun y43 => some (decide ((y43 : Int) ≥ 0))) else (some false)) fun q32 => bif q32 then (bi (some 7) fun v => some (.out v)) else (some (.go ())))))) 0 l ()) fun q => goI q fun a8 => some 0)

def m_route_gainFault (gain : Int) : Option Int :=
  bi (m_kit_Outside gain 0 1000000) fun y1 => bif y1 then (some 1) else (some 0)

def m_slices_Compact_int_int (k : Nat) (s : List Int) : Option (List Int) :=
  bif decide (((s.length : Int) : Int) < 2) then (some s) else (bi (loopM (σ := Int) (ρ := Unit ⊕ (List Int)) (fun s4 => bif decide ((s4 : Int) < (s.length : Int)) then (bi (getZ s s4) fun x14 => bi (getZ s (wi (s4 - 1))) fun x17 => bif (x14 : Int) == x17 then (bi (subZ s s4 (s.length : Int)) fun z21 => bi (loopM (σ := (List Int) × Int × Int) (ρ := (List Int) × Int) (fun s24 => bif decide ((s24.2.2 : Int) < (z21.length : Int)) then (bi (getZ z21 s24.2.2) fun x34 => bi (getZ s24.1 (((s4.toNat + s24.2.2.toNat) : Nat) : Int)) fun x36 => bi (getZ z21 (wi (s24.2.2 - 1))) fun x39 => bi (getZ s24.1 (((s4.toNat + (wi (s24.2.2 - 1)).toNat) : Nat) : Int)) fun x41 => bif (x36 : Int) != x41 then (bi (getZ z21 s24.2.2) fun x45 => bi (getZ s24.1 (((s4.toNat + s24.2.2.toNat) : Nat) : Int)) fun x47 => bi (getZ s24.1 s24.2.1) fun x50 => some (.go (s24.1.set s24.2.1.toNat x47, wi (s24.2.1 + 1), wi (s24.2.2 + 1)))) else (some (.go (s24.1, s24.2.1, wi (s24.2.2 + 1))))) else (some (.out (s24.1, s24.2.1)))) k (s, s4, 1)) fun q26 => bi (subZ q26.1 q26.2 (q26.1.length : Int)) fun z55 => bi (some (q26.1.take q26.2.toNat)) fun v => some (.out (.inr v))) else (some (.go (wi (s4 + 1))))) else (some (.out (.inl ())))) k 1) fun q => orI q fun a8 => some s)

def m_route_choose (answers : List (Str × Int)) (now : Str) (gain : Int) : Option Str :=
  bi (rangeP (σ := Str) (fun x8 s7 => bif ((((s7 : Str) == []) || (decide ((x8.2 : Int) < ((mGet answers s7).getD 0)))) || (((x8.2 : Int) == ((mGet answers s7).getD 0)) && (Op.bytesLess x8.1 s7))) then (some x8.1) else (some s7)) answers []) fun q12 => bif (((mGet answers now).isSome) && (decide ((wi (((mGet answers now).getD 0) - ((mGet answers q12).getD 0)) : Int) < gain))) then (some now) else (some q12)

def m_route_begins (l : List T_api_Turn) (v_at : Int) (who : Str) : Option (List T_api_Turn) :=
  bi (bif decide ((wi ((l.length : Int) - 1) : Int) ≥ 0) then (bi (getZ l (wi ((l.length : Int) - 1))) fun x4 => some ((x4.To : Int) == 345686400)) else (some false)) fun q1 => bi (bif q1 then (bi (getZ l (wi ((l.length : Int) - 1))) fun x12 => bif (x12.Who : Str) == who then (bi (some l) fun v => some (.inr v)) else (bi (getZ l (wi ((l.length : Int) - 1))) fun x19 => bi (getZ (l.set ((wi ((l.length : Int) - 1)).toNat) (⟨x19.Who, x19.From, v_at⟩ : T_api_Turn)) (wi ((l.length : Int) - 1))) fun x22 => bif (x22.From : Int) == v_at then (bi (subZ (l.set ((wi ((l.length : Int) - 1)).toNat) (⟨x19.Who, x19.From, v_at⟩ : T_api_Turn)) 0 (wi ((l.length : Int) - 1))) fun z26 => some (.inl z26)) else (some (.inl (l.set ((wi ((l.length : Int) - 1)).toNat) (⟨x19.Who, x19.From, v_at⟩ : T_api_Turn)))))) else (some (.inl l)) : Option ((List T_api_Turn) ⊕ (List T_api_Turn))) fun q => orI q fun a10 => bif (who : Str) == [] then (some a10) else (bi (apd a10 [(⟨who, v_at, 345686400⟩ : T_api_Turn)]) fun y32 => some y32)

def m_route_Used (k : Nat) (l : List T_api_Sample) (gain : Int) (fresh : Int) : Option ((List T_api_Turn) × Int) :=
  bi (m_route_CheckSamples k l) fun y1 => bif (y1 : Int) != 0 then (some ([], y1)) else (bi (m_route_gainFault gain) fun y5 => bif (y5 : Int) != 0 then (some ([], y5)) else (bi (m_kit_Outside fresh 1 345686400) fun y9 => bif y9 then (some ([], 1)) else (bi (rangeF (σ := List Int) (fun i13 x15 s14 => bi (apd s14 [x15.At]) fun y24 => bif decide ((wi (x15.At + fresh) : Int) < 345686400) then (bi (apd y24 [wi (x15.At + fresh)]) fun y27 => some y27) else (some y24)) 0 l ([] : List Int)) fun q16 => bi (m_slices_SortI q16) fun y30 => gd (decide (y30.length = q16.length)) (bi (m_slices_Compact_int_int k y30) fun y34 => bi (gd (decide ((y34.length : Int) ≤ 9223372036854775807)) (rangeG (σ := (List (Str × T_api_Sample)) × (List T_api_Turn) × Str × Int) (fun i36 s37 => bi (getZ y34 (i36 : Int)) fun x48 => bi (loopM (σ := (List (Str × T_api_Sample)) × Int) (ρ := (List (Str × T_api_Sample)) × Int) (fun s52 => bi (bif decide ((s52.2 : Int) < (l.length : Int)) then (bi (getZ l s52.2) fun x64 => some (decide ((x64.At : Int) ≤ x48))) else (some false)) fun q61 => bif q61 then (bi (getZ l s52.2) fun x68 => bi (getZ l s52.2) fun x70 => some (.go ((mSet s52.1 x68.Path x70), wi (s52.2 + 1)))) else (some (.out (s52.1, s52.2)))) k (s37.1, s37.2.2.2)) fun q54 => bi (rangeP (σ := List (Str × Int)) (fun x80 s79 => bif ((decide ((x80.2.Millis : Int) ≥ 0)) && (decide ((wi (x80.2.At + fresh) : Int) > x48))) then (some (mSet s79 x80.1 x80.2.Millis)) else (some s79)) q54.1 ([] : List (Str × Int))) fun q84 => bi (m_route_choose q84 s37.2.2.1 gain) fun y88 => bi (m_route_begins s37.2.1 x48 y88) fun y90 => some (q54.1, y90, y88, q54.2)) (y34.length : Int) (([] : List (Str × T_api_Sample)), ([] : List T_api_Turn), [], 0))) fun q39 => some (q39.2.1, 0)))))

def m_laneref2_in (n : Int) (low : Int) (high : Int) : Option Bool :=
  some ((decide ((low : Int) ≤ n)) && (decide ((n : Int) ≤ high)))

def m_laneref2_Moment (v_at : Int) : Option Bool :=
  bi (m_laneref2_in v_at 0 345686399) fun y1 => some y1

def m_laneref2_only (s : Str) (v_some : Str) : Option Bool :=
  bi (m_strings_Trim s v_some) fun y1 => some ((y1 : Str) == [])

def m_laneref2_Key (s : Str) : Option Bool :=
  bi (m_laneref2_in (s.length : Int) 1 40) fun y1 => bi (bif y1 then (bi (subZ s 0 1) fun z6 => bi (m_laneref2_only z6 [97, 98, 99, 100, 101, 102, 103, 104, 105, 106, 107, 108, 109, 110, 111, 112, 113, 114, 115, 116, 117, 118, 119, 120, 121, 122]) fun y8 => some y8) else (some false)) fun q3 => bi (bif q3 then (bi (m_laneref2_only s [97, 98, 99, 100, 101, 102, 103, 104, 105, 106, 107, 108, 109, 110, 111, 112, 113, 114, 115, 116, 117, 118, 119, 120, 121, 122, 48, 49, 50, 51, 52, 53, 54, 55, 56, 57, 45, 95]) fun y14 => some y14) else (some false)) fun q11 => some q11

def m_laneref1_in (n : Int) (low : Int) (high : Int) : Option Bool :=
  some ((decide ((low : Int) ≤ n)) && (decide ((n : Int) ≤ high)))

def m_laneref1_SamplesFault (l : List T_api_Sample) : Option Int :=
  bif decide (((l.length : Int) : Int) > 2000) then (some 2) else (bi (rangeM (σ := Unit) (ρ := Int) (fun i3 x5 s4 => bi (m_laneref2_Moment x5.At) fun y14 => bif !y14 then (bi (some 1) fun v => some (.out v)) else (bi (m_laneref2_Key x5.Path) fun y20 => bif !y20 then (bi (some 5) fun v => some (.out v)) else (bi (m_laneref1_in x5.Millis (-1) 1000000) fun y26 => bif !y26 then (bi (some 1) fun v => some (.out v)) else (bi (bif decide (((i3 : Int) : Int) > 0) then (bi (getZ l (wi ((i3 : Int) - 1))) fun x35 => bi (m_cmp_Compare_int x35.At x5.At) fun y37 => bi (getZ l (wi ((i3 : Int) - 1))) fun x39 => bi (m_strings_Compare x39.Path x5.Path) fun y41 => bi (m_cmp_Or_int [y37, y41]) fun y43 => some (decide ((y43 : Int) ≥ 0))) else (some false)) fun q32 => bif q32 then (bi (some 7) fun v => some (.out v)) else (some (.go ())))))) 0 l ()) fun q => goI q fun a8 => some 0)

def m_laneref1_GainFault (gain : Int) : Option Int :=
  bi (m_laneref1_in gain 0 1000000) fun y1 => bif !y1 then (some 1) else (some 0)

def m_laneref1_FreshFault (fresh : Int) : Option Int :=
  bi (m_laneref1_in fresh 1 345686400) fun y1 => bif !y1 then (some 1) else (some 0)

def m_cmp_Or_api_Errno (vals : List Int) : Option Int :=
  bi (rangeM (σ := Unit) (ρ := Int) (fun i1 x3 s2 => bif (x3 : Int) != 0 then (bi (some x3) fun v => some (.out v)) else (some (.go ()))) 0 vals ()) fun q => goI q fun a6 => some 0

def m_route_CheckLinks (k : Nat) (l : List T_api_Link) : Option Int :=
  bif decide (((l.length : Int) : Int) > 500) then (some 2) else (bi (rangeM (σ := Unit) (ρ := Int) (fun i3 x5 s4 => bi (m_kit_IsKey k x5.A) fun y14 => bi (bif !y14 then (some true) else (bi (m_kit_IsKey k x5.v_B) fun y20 => some (!y20))) fun q16 => bif q16 then (bi (some 5) fun v => some (.out v)) else (bif !(Op.bytesLess x5.A x5.v_B) then (bi (some 7) fun v => some (.out v)) else (bi (m_kit_Outside x5.Millis 0 1000000) fun y30 => bif y30 then (bi (some 1) fun v => some (.out v)) else (bi (bif decide (((i3 : Int) : Int) > 0) then (bi (getZ l (wi ((i3 : Int) - 1))) fun x39 => bi (m_strings_Compare x39.A x5.A) fun y41 => bi (getZ l (wi ((i3 : Int) - 1))) fun x43 => bi (m_strings_Compare x43.v_B x5.v_B) fun y45 => bi (m_cmp_Or_int [y41, y45]) fun y47 => some (decide ((y47 : Int) ≥ 0))) else (some false)) fun q36 => bif q36 then (bi (some 7) fun v => some (.out v)) else (some (.go ())))))) 0 l ()) fun q => goI q fun a8 => some 0)

def m_route_stepsOf (l : List T_api_Link) : Option (List (Str × (List T_route_step))) :=
  bi (rangeF (σ := List (Str × (List T_route_step))) (fun i1 x3 s2 => gd ((mGet s2 x3.A).isNone) (bi (apd ([] : List T_route_step) [(⟨x3.v_B, x3.Millis⟩ : T_route_step)]) fun y14 => gd ((mGet (mSet s2 x3.A y14) x3.v_B).isNone) (bi (apd ([] : List T_route_step) [(⟨x3.A, x3.Millis⟩ : T_route_step)]) fun y18 => some (mSet (mSet s2 x3.A y14) x3.v_B y18)))) 0 l ([] : List (Str × (List T_route_step)))) fun q4 => some q4

def m_route_far_less (a : T_route_far) (b : T_route_far) : Option Bool :=
  some ((decide ((a.millis : Int) < b.millis)) || (((a.millis : Int) == b.millis) && (decide ((a.links : Int) < b.links))))

def m_route_distances (k : Nat) (steps : List (Str × (List T_route_step))) (v_from : Str) : Option (List (Str × T_route_far)) :=
  bi (loopM (σ := (List (Str × T_route_far)) × (List (Str × Bool))) (ρ := List (Str × T_route_far)) (fun s2 => bi (rangeP (σ := Str × Bool) (fun x18 s17 => bi (bif !((mGet s2.2 x18.1).getD false) then (bi (bif !s17.2 then (some true) else (bi (m_route_far_less x18.2 ((mGet s2.1 s17.1).getD (⟨0, 0⟩ : T_route_far))) fun y58 => some y58)) fun q54 => some q54) else (some false)) fun q51 => bif q51 then (some (x18.1, true)) else (some (s17.1, s17.2))) s2.1 ([], false)) fun q22 => bif !q22.2 then (bi (some s2.1) fun v => some (.out v)) else (bi (rangeF (σ := List (Str × T_route_far)) (fun i30 x32 s31 => bi (bif !((mGet s31 x32.to).isSome) then (some true) else (bi (m_route_far_less (⟨wi ((((mGet s31 q22.1).getD (⟨0, 0⟩ : T_route_far)).millis) + x32.millis), wi ((((mGet s31 q22.1).getD (⟨0, 0⟩ : T_route_far)).links) + 1)⟩ : T_route_far) ((mGet s31 x32.to).getD (⟨0, 0⟩ : T_route_far))) fun y45 => some y45)) fun q41 => bif q41 then (some (mSet s31 x32.to (⟨wi ((((mGet s31 q22.1).getD (⟨0, 0⟩ : T_route_far)).millis) + x32.millis), wi ((((mGet s31 q22.1).getD (⟨0, 0⟩ : T_route_far)).links) + 1)⟩ : T_route_far))) else (some s31)) 0 ((mGet steps q22.1).getD []) s2.1) fun q33 => some (.go (q33, (mSet s2.2 q22.1 true))))) k ((mSet ([] : List (Str × T_route_far)) v_from (⟨0, 0⟩ : T_route_far)), ([] : List (Str × Bool)))) fun v => some v

def m_route_through (k : Nat) (l : List T_api_Link) (a : Str) (b : Str) : Option ((List Str) × Int × Int) :=
  bi (m_route_stepsOf l) fun y1 => bi (m_route_distances k y1 b) fun y3 => bif !((mGet y3 a).isSome) then (some ([], 0, 8)) else (bi (loopM (σ := (List Str) × Str) (ρ := List Str) (fun s8 => bif !((s8.2 : Str) == b) then (bi (rangeF (σ := Str) (fun i18 x20 s19 => bif (((((mGet y3 x20.to).isSome) && ((wi ((((mGet y3 x20.to).getD (⟨0, 0⟩ : T_route_far)).millis) + x20.millis) : Int) == (((mGet y3 s8.2).getD (⟨0, 0⟩ : T_route_far)).millis))) && ((wi ((((mGet y3 x20.to).getD (⟨0, 0⟩ : T_route_far)).links) + 1) : Int) == (((mGet y3 s8.2).getD (⟨0, 0⟩ : T_route_far)).links))) && (((s19 : Str) == []) || (Op.bytesLess x20.to s19))) then (some x20.to) else (some s19)) 0 ((mGet y1 s8.2).getD []) []) fun q21 => bi (apd s8.1 [q21]) fun y31 => some (.go (y31, q21))) else (some (.out s8.1))) k ([a], a)) fun q10 => some (q10, ((mGet y3 a).getD (⟨0, 0⟩ : T_route_far)).millis, 0))

def m_route_Through (k : Nat) (l : List T_api_Link) (a : Str) (b : Str) : Option ((List Str) × Int × Int) :=
  bi (m_route_CheckLinks k l) fun y1 => bif (y1 : Int) != 0 then (some ([], 0, y1)) else (bi (m_kit_IsKey k a) fun y5 => bi (bif !y5 then (some true) else (bi (m_kit_IsKey k b) fun y11 => some (!y11))) fun q7 => bif q7 then (some ([], 0, 5)) else (bi (m_route_through k l a b) fun y15 => some (y15.1, y15.2.1, y15.2.2)))

def m_slices_Equal_string_string (s1 : List Str) (s2 : List Str) : Option Bool :=
  bif ((s1.length : Int) : Int) != (s2.length : Int) then (some false) else (bi (rangeM (σ := Unit) (ρ := Bool) (fun i3 x5 s4 => bi (getZ s2 (i3 : Int)) fun x14 => bif !((x5 : Str) == x14) then (bi (some false) fun v => some (.out v)) else (some (.go ()))) 0 s1 ()) fun q => goI q fun a8 => some true)

def m_lanelaw1_routed (k : Nat) : Option Bool :=
  bi (m_route_Through k [(⟨[97], [98], 3⟩ : T_api_Link)] [98] [97]) fun y1 => bi (bif (((y1.2.2 : Int) == 0) && ((y1.2.1 : Int) == 3)) then (bi (m_slices_Equal_string_string y1.1 [[98], [97]]) fun y6 => some y6) else (some false)) fun q3 => some q3

def m_laneref1_goodAt (l : List T_api_Sample) (fresh : Int) (v_at : Int) : Option (List (Str × Int)) :=
  bi (rangeF (σ := List (Str × T_api_Sample)) (fun i1 x3 s2 => bif decide ((x3.At : Int) ≤ v_at) then (some (mSet s2 x3.Path x3)) else (some s2)) 0 l ([] : List (Str × T_api_Sample))) fun q4 => bi (rangeP (σ := List (Str × Int)) (fun x21 s20 => bif ((decide ((x21.2.Millis : Int) ≥ 0)) && (decide ((wi (x21.2.At + fresh) : Int) > v_at))) then (some (mSet s20 x21.1 x21.2.Millis)) else (some s20)) q4 ([] : List (Str × Int))) fun q25 => some q25

def m_laneref1_addTurn (l : List T_api_Turn) (who : Str) (v_from : Int) (to : Int) : Option (List T_api_Turn) :=
  bif (((who : Str) == []) || (decide ((v_from : Int) ≥ to))) then (some l) else (bi (bif decide (((l.length : Int) : Int) > 0) then (bi (getZ l (wi ((l.length : Int) - 1))) fun x6 => some ((x6.Who : Str) == who)) else (some false)) fun q3 => bi (bif q3 then (bi (getZ l (wi ((l.length : Int) - 1))) fun x13 => some ((x13.To : Int) == v_from)) else (some false)) fun q10 => bif q10 then (bi (getZ l (wi ((l.length : Int) - 1))) fun x18 => some (l.set ((wi ((l.length : Int) - 1)).toNat) (⟨x18.Who, x18.From, to⟩ : T_api_Turn))) else (bi (apd l [(⟨who, v_from, to⟩ : T_api_Turn)]) fun y22 => some y22))

def m_laneref1_UsedPaths (k : Nat) (l : List T_api_Sample) (gain : Int) (fresh : Int) : Option (List T_api_Turn) :=
  bi (rangeF (σ := List Int) (fun i1 x3 s2 => bi (apd s2 [x3.At, (if 345686400 < (wi (x3.At + fresh)) then 345686400 else wi (x3.At + fresh))]) fun y12 => some y12) 0 l [345686400]) fun q4 => bi (m_slices_SortI q4) fun y14 => gd (decide (y14.length = q4.length)) (bi (m_slices_Compact_int_int k y14) fun y18 => bi (gd (decide ((wi ((y18.length : Int) - 1)) ≤ 9223372036854775807)) (rangeG (σ := (List T_api_Turn) × Str) (fun i20 s21 => bi (getZ y18 (i20 : Int)) fun x32 => bi (m_laneref1_goodAt l fresh x32) fun y35 => bi (rangeP (σ := Str) (fun x44 s43 => bif ((((s43 : Str) == []) || (decide ((x44.2 : Int) < ((mGet y35 s43).getD 0)))) || (((x44.2 : Int) == ((mGet y35 s43).getD 0)) && (Op.bytesLess x44.1 s43))) then (some x44.1) else (some s43)) y35 []) fun q48 => bi (bif !(((mGet y35 s21.2).isSome) && (decide ((wi (((mGet y35 s21.2).getD 0) - ((mGet y35 q48).getD 0)) : Int) < gain))) then (some q48) else (some s21.2)) fun q52 => bi (getZ y18 (i20 : Int)) fun x56 => bi (getZ y18 (wi ((i20 : Int) + 1))) fun x59 => bi (m_laneref1_addTurn s21.1 q52 x56 x59) fun y62 => some (y62, q52)) (wi ((y18.length : Int) - 1)) (([] : List T_api_Turn), []))) fun q23 => some q23.1)

def m_slices_Equal_api_Turn_api_Turn (s1 : List T_api_Turn) (s2 : List T_api_Turn) : Option Bool :=
  bif ((s1.length : Int) : Int) != (s2.length : Int) then (some false) else (bi (rangeM (σ := Unit) (ρ := Bool) (fun i3 x5 s4 => bi (getZ s2 (i3 : Int)) fun x14 => bif !(((x5.Who : Str) == x14.Who) && (((x5.From : Int) == x14.From) && (((x5.To : Int) == x14.To) && true))) then (bi (some false) fun v => some (.out v)) else (some (.go ()))) 0 s1 ()) fun q => goI q fun a8 => some true)

def m_lanelaw1_PathsUsed (k : Nat) (l : List Int) : Option Bool :=
  bi (m_lanemake_Stream_Range (⟨l, 0⟩ : T_lanemake_Stream) 0 7) fun y1 => bi (m_lanemake_Stream_Samples y1.2 y1.1) fun y3 => bi (m_lanemake_Stream_Pick y3.2 [0, 1, 3, 5, 20, -1]) fun y5 => bi (m_lanemake_Stream_Pick y5.2 [1, 5, 10, 30, 0, 345686400, 345686401]) fun y7 => bi (m_route_Used k y3.1 y5.1 y7.1) fun y9 => bi (m_laneref1_SamplesFault y3.1) fun y11 => bi (m_route_CheckSamples k y3.1) fun y13 => bif (y13 : Int) != y11 then (some false) else (bi (m_laneref1_GainFault y5.1) fun y17 => bi (m_laneref1_FreshFault y7.1) fun y19 => bi (m_cmp_Or_api_Errno [y11, y17, y19]) fun y21 => bif (y21 : Int) != 0 then (bi (bif (((y9.2 : Int) == y21) && (((y9.1.length : Int) : Int) == 0)) then (bi (m_lanelaw1_routed k) fun y27 => some y27) else (some false)) fun q24 => some q24) else (bi (bif (y9.2 : Int) == 0 then (bi (m_laneref1_UsedPaths k y3.1 y5.1 y7.1) fun y34 => bi (m_slices_Equal_api_Turn_api_Turn y9.1 y34) fun y36 => some y36) else (some false)) fun q31 => bi (bif q31 then (bi (m_lanelaw1_routed k) fun y42 => some y42) else (some false)) fun q39 => some q39))

end
end Go.Gk
