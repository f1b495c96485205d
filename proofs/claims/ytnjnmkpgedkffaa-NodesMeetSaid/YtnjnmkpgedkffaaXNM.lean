/-
  Models of functions.
-/
import Derived.Test.YtnjnmkpgedkffaaMStr3
set_option linter.unusedVariables false
namespace Go.Gk
noncomputable section
structure T_lanemake_Stream where
  L : List Int
  v_at : Int
  deriving DecidableEq
structure T_api_Addr where
  Six : Bool
  Hi : Int
  Lo : Int
  deriving DecidableEq
structure T_api_Nat where
  Maps : Int
  Lets : Int
  Timeout : Int
  First : Int
  Ports : Int
  Outer : T_api_Addr
  deriving DecidableEq
structure T_api_Spot where
  Addr : T_api_Addr
  Port : Int
  deriving DecidableEq
structure T_route_entry where
  inner : T_api_Spot
  port : Int
  dep : T_api_Spot
  last : Int
  sent : Tl T_api_Spot
  deriving DecidableEq
structure T_route_Translator where
  nat : T_api_Nat
  now : Int
  v_next : Int
  list : List T_route_entry
  deriving DecidableEq
structure T_route_peer where
  t : T_route_Translator
  knows : List T_api_Spot
  heard : Int
  deriving DecidableEq
structure T_api_Punched where
  A : Int
  v_B : Int
  deriving DecidableEq
structure T_api_Link where
  A : Str
  v_B : Str
  Millis : Int
  deriving DecidableEq
structure T_route_step where
  to : Str
  millis : Int
  deriving DecidableEq
structure T_route_far where
  millis : Int
  links : Int
  deriving DecidableEq
structure T_laneref1_sent where
  v_at : Int
  v_from : T_api_Spot
  to : T_api_Spot
  port : Int
  deriving DecidableEq
structure T_laneref1_Translator where
  n : T_api_Nat
  out : List T_laneref1_sent
  last : Int
  now : Int
  deriving DecidableEq

def m_lanemake_Below (x : Int) (n : Int) : Option Int :=
  bif decide ((n : Int) < 1) then (some 0) else (bi (remZ x n) fun y3 => bi (bif decide ((y3 : Int) < 0) then (some (wi (y3 + n))) else (some y3)) fun q5 => some q5)

def m_lanemake_Stream_Next (s : T_lanemake_Stream) (n : Int) : Option (Int × T_lanemake_Stream) :=
  bif ((s.L.length : Int) : Int) == 0 then (bi (m_lanemake_Below (wi ((wi (s.v_at + 1)) * 7919)) n) fun y2 => some (y2, (⟨s.L, wi (s.v_at + 1)⟩ : T_lanemake_Stream))) else (bi (remZ (wi ((wi (s.v_at + 1)) - 1)) (s.L.length : Int)) fun y5 => bi (divZ .i64 (wi ((wi (s.v_at + 1)) - 1)) (s.L.length : Int)) fun y7 => bi (getZ s.L y5) fun x9 => bi (m_lanemake_Below x9 1073741824) fun y11 => bi (m_lanemake_Below (wi (y11 + (wi (y7 * (wi (7919 + y5)))))) n) fun y13 => some (y13, (⟨s.L, wi (s.v_at + 1)⟩ : T_lanemake_Stream)))

def m_lanemake_Stream_Range (s : T_lanemake_Stream) (low : Int) (high : Int) : Option (Int × T_lanemake_Stream) :=
  bif decide ((high : Int) < low) then (some (low, s)) else (bi (m_lanemake_Stream_Next s (wi ((wi (high - low)) + 1))) fun y3 => some (wi (low + y3.1), y3.2))

def m_lanemake_Stream_Pick (s : T_lanemake_Stream) (l : List Int) : Option (Int × T_lanemake_Stream) :=
  bi (m_lanemake_Stream_Next s (l.length : Int)) fun y1 => bi (getZ l y1.1) fun x3 => some (x3, y1.2)

def m_lanemake_at (n : Int) : Option T_api_Addr :=
  some (⟨false, 0, IntKind.u64.wrap (1681915904 + (IntKind.u64.wrap (n)))⟩ : T_api_Addr)

def m_lanemake_Stream_Flip (s : T_lanemake_Stream) (n : Int) : Option (Bool × T_lanemake_Stream) :=
  bi (m_lanemake_Stream_Next s n) fun y1 => some ((y1.1 : Int) == 0, y1.2)

def m_lanemake_Stream_Odd (s : T_lanemake_Stream) (low : Int) (high : Int) : Option (Int × T_lanemake_Stream) :=
  bi (m_lanemake_Stream_Flip s 12) fun y1 => bif y1.1 then (bi (m_lanemake_Stream_Pick y1.2 [wi (low - 1), wi (high + 1), low, high, -1099511627776, 1099511627776]) fun y4 => some (y4.1, y4.2)) else (bi (m_lanemake_Stream_Range y1.2 low high) fun y7 => some (y7.1, y7.2))

def m_lanemake_Stream_Addr (s : T_lanemake_Stream) : Option (T_api_Addr × T_lanemake_Stream) :=
  bi (m_lanemake_Stream_Next s 6) fun y1 => bif (y1.1 : Int) == 0 then (bi (m_lanemake_Stream_Next y1.2 5) fun y4 => bi (getZ [0, 18230571291595767808, 2306139568115548160, 9223372036854775808, 18446744073709551615] y4.1) fun x6 => bi (m_lanemake_Stream_Next y4.2 5) fun y8 => bi (getZ [0, 1, 2, 4294967296, 18446744073709551615] y8.1) fun x10 => some ((⟨true, x6, x10⟩ : T_api_Addr), y8.2)) else (bif (y1.1 : Int) == 1 then (bi (m_lanemake_Stream_Next y1.2 5) fun y14 => bi (getZ [0, 1, 4294967295, 2130706433, 3232235521] y14.1) fun x16 => some ((⟨false, 0, x16⟩ : T_api_Addr), y14.2)) else (bif (y1.1 : Int) == 2 then (bi (m_lanemake_Stream_Range y1.2 0 16777216) fun y20 => bi (remZ (IntKind.u64.wrap ((IntKind.u64.wrap (y20.1)) * 251)) 4294967296) fun y22 => some ((⟨false, 0, y22⟩ : T_api_Addr), y20.2)) else (bi (m_lanemake_Stream_Range y1.2 0 20) fun y25 => some ((⟨false, 0, IntKind.u64.wrap (167772160 + (IntKind.u64.wrap (y25.1)))⟩ : T_api_Addr), y25.2))))

def m_lanemake_Stream_Raw (s : T_lanemake_Stream) : Option (T_api_Addr × T_lanemake_Stream) :=
  bi (m_lanemake_Stream_Addr s) fun y1 => bi (m_lanemake_Stream_Flip y1.2 15) fun y3 => bif y3.1 then (bi (m_lanemake_Stream_Next y3.2 2) fun y6 => bi (m_lanemake_Stream_Next y6.2 3) fun y8 => bi (getZ [4294967296, 5, 1099511627776] y8.1) fun x10 => some ((⟨false, IntKind.u64.wrap (y6.1), x10⟩ : T_api_Addr), y8.2)) else (some (y1.1, y3.2))

def m_lanemake_Stream_Nat (s : T_lanemake_Stream) : Option (T_api_Nat × T_lanemake_Stream) :=
  bi (m_lanemake_Stream_Range s 1 3) fun y1 => bi (m_lanemake_Stream_Range y1.2 1 3) fun y3 => bi (m_lanemake_Stream_Pick y3.2 [1, 2, 5, 30]) fun y5 => bi (m_lanemake_Stream_Pick y5.2 [1, 5000, 65530]) fun y7 => bi (m_lanemake_Stream_Pick y7.2 [1, 2, 3, 6]) fun y9 => bi (m_lanemake_Stream_Range y9.2 1 3) fun y11 => bi (m_lanemake_at y11.1) fun y13 => bi (m_lanemake_Stream_Flip y11.2 20) fun y15 => bi (bif y15.1 then (bi (m_lanemake_Stream_Odd y15.2 1 3) fun y20 => bi (m_lanemake_Stream_Odd y20.2 1 3) fun y22 => bi (m_lanemake_Stream_Odd y22.2 1 1000000) fun y24 => bi (m_lanemake_Stream_Odd y24.2 1 65535) fun y26 => bi (m_lanemake_Stream_Raw y26.2) fun y28 => some (y28.2, (⟨y20.1, y22.1, y24.1, y26.1, y9.1, y28.1⟩ : T_api_Nat))) else (some (y15.2, (⟨y1.1, y3.1, y5.1, y7.1, y9.1, y13⟩ : T_api_Nat)))) fun q17 => some (q17.2, q17.1)

def m_kit_Outside (n : Int) (low : Int) (high : Int) : Option Bool :=
  some ((decide ((n : Int) < low)) || (decide ((n : Int) > high)))

def m_addr_CheckAddr (a : T_api_Addr) : Option Int :=
  bif ((!a.Six) && (((a.Hi : Int) != 0) || (decide ((a.Lo : Int) ≥ 4294967296)))) then (some 3) else (some 0)

def m_route_natFault (n : T_api_Nat) : Option Int :=
  bi (m_kit_Outside n.Maps 1 3) fun y1 => bi (bif y1 then (some true) else (bi (m_kit_Outside n.Lets 1 3) fun y7 => some y7)) fun q3 => bif q3 then (some 4) else (bi (m_kit_Outside n.Timeout 1 1000000) fun y11 => bi (bif y11 then (some true) else (bi (m_kit_Outside n.First 1 65535) fun y17 => some y17)) fun q13 => bi (bif q13 then (some true) else (bi (m_kit_Outside n.Ports 1 (wi (65536 - n.First))) fun y23 => some y23)) fun q19 => bif q19 then (some 1) else (bi (m_addr_CheckAddr n.Outer) fun y27 => some y27))

def m_route_inner  : Option T_api_Spot :=
  some (⟨(⟨false, 0, 167772161⟩ : T_api_Addr), 1000⟩ : T_api_Spot)

def m_kit_IsMoment (n : Int) : Option Bool :=
  some ((decide ((n : Int) ≥ 0)) && (decide ((n : Int) < 345686400)))

def m_route_momentFault (v_at : Int) : Option Int :=
  bi (m_kit_IsMoment v_at) fun y1 => bif !y1 then (some 1) else (some 0)

def m_route_Translator_timeFault (t : T_route_Translator) (v_at : Int) : Option Int :=
  bi (m_route_momentFault v_at) fun y1 => bif (y1 : Int) != 0 then (some y1) else (bif decide ((v_at : Int) < t.now) then (some 7) else (some 0))

def m_route_portFault (n : Int) : Option Int :=
  bi (m_kit_Outside n 1 65535) fun y1 => bif y1 then (some 1) else (some 0)

def m_route_spotFault (s : T_api_Spot) : Option Int :=
  bi (m_addr_CheckAddr s.Addr) fun y1 => bif (y1 : Int) != 0 then (some y1) else (bi (m_route_portFault s.Port) fun y5 => some y5)

def m_route_Translator_lasting (t : T_route_Translator) (v_at : Int) : Option Int :=
  bi (gd (decide ((t.list.length : Int) ≤ 9223372036854775807)) (rangeG (σ := Int) (fun i1 s2 => bi (getZ t.list (i1 : Int)) fun x13 => bif decide ((wi (v_at - x13.last) : Int) < t.nat.Timeout) then (some (wi (s2 + 1))) else (some s2)) (t.list.length : Int) 0)) fun q4 => some q4

def m_route_seen (s : T_api_Spot) (sees : Int) : Option T_api_Spot :=
  bif (sees : Int) == 1 then (some (⟨(⟨false, 0, 0⟩ : T_api_Addr), 0⟩ : T_api_Spot)) else (bif (sees : Int) == 2 then (some (⟨s.Addr, 0⟩ : T_api_Spot)) else (some s))

def m_route_Translator_find_1 (x : T_route_entry) (x2 : T_api_Spot) (x3 : T_api_Spot) (x4 : Int) (x5 : T_route_Translator) : Option Bool :=
  bi (bif ((((x.inner.Addr.Six : Bool) == x2.Addr.Six) && (((x.inner.Addr.Hi : Int) == x2.Addr.Hi) && (((x.inner.Addr.Lo : Int) == x2.Addr.Lo) && true))) && (((x.inner.Port : Int) == x2.Port) && true)) then (bif ((((x.dep.Addr.Six : Bool) == x3.Addr.Six) && (((x.dep.Addr.Hi : Int) == x3.Addr.Hi) && (((x.dep.Addr.Lo : Int) == x3.Addr.Lo) && true))) && (((x.dep.Port : Int) == x3.Port) && true)) then (some (decide ((wi (x4 - x.last) : Int) < x5.nat.Timeout))) else (some false)) else (some false)) fun q1 => some q1

def m_slices_IndexFunc_route_entry_route_entry (f : T_api_Spot) (f2 : T_api_Spot) (f3 : Int) (f4 : T_route_Translator) : Option Int :=
  bi (gd (decide ((f4.list.length : Int) ≤ 9223372036854775807)) (rangeI (σ := Unit) (ρ := Int) (fun i1 s2 => bi (getZ f4.list (i1 : Int)) fun x13 => bi (m_route_Translator_find_1 x13 f f2 f3 f4) fun y16 => bif y16 then (bi (some (i1 : Int)) fun v => some (.out v)) else (some (.go ()))) (f4.list.length : Int) ())) fun q => goI q fun a6 => some (-1)

def m_route_Translator_find (t : T_route_Translator) (v_at : Int) (v_from : T_api_Spot) (to : T_api_Spot) : Option Int :=
  bi (m_route_seen to t.nat.Maps) fun y1 => bi (m_slices_IndexFunc_route_entry_route_entry v_from y1 v_at t) fun y3 => some y3

def m_route_Translator_pass_1 (x : T_route_entry) (x2 : Int) (x3 : T_route_Translator) : Option Bool :=
  some (decide ((wi (x2 - x.last) : Int) ≥ x3.nat.Timeout))

def m_slices_IndexFunc_route_entry_route_entry_2 (s : List T_route_entry) (f : Int) (f2 : T_route_Translator) : Option Int :=
  bi (gd (decide ((s.length : Int) ≤ 9223372036854775807)) (rangeI (σ := Unit) (ρ := Int) (fun i1 s2 => bi (getZ s (i1 : Int)) fun x13 => bi (m_route_Translator_pass_1 x13 f (⟨f2.nat, f2.now, f2.v_next, []⟩ : T_route_Translator)) fun y16 => bif y16 then (bi (some (i1 : Int)) fun v => some (.out v)) else (some (.go ()))) (s.length : Int) ())) fun q => goI q fun a6 => some (-1)

def m_slices_DeleteFunc_route_entry_route_entry (k : Nat) (s : List T_route_entry) (f : Int) (f2 : T_route_Translator) : Option (List T_route_entry) :=
  bi (m_slices_IndexFunc_route_entry_route_entry_2 s f (⟨f2.nat, f2.now, f2.v_next, []⟩ : T_route_Translator)) fun y1 => bif (y1 : Int) == (-1) then (some s) else (bi (loopM (σ := (List T_route_entry) × Int × Int) (ρ := (List T_route_entry) × Int) (fun s6 => bif decide ((s6.2.2 : Int) < (s6.1.length : Int)) then (bi (getZ s6.1 s6.2.2) fun x16 => bi (m_route_Translator_pass_1 x16 f (⟨f2.nat, f2.now, f2.v_next, []⟩ : T_route_Translator)) fun y19 => bif !y19 then (bi (getZ s6.1 s6.2.1) fun x22 => some (.go (s6.1.set s6.2.1.toNat x16, wi (s6.2.1 + 1), wi (s6.2.2 + 1)))) else (some (.go (s6.1, s6.2.1, wi (s6.2.2 + 1))))) else (some (.out (s6.1, s6.2.1)))) k (s, y1, wi (y1 + 1))) fun q8 => bi (subZ q8.1 q8.2 (q8.1.length : Int)) fun z27 => some (q8.1.take q8.2.toNat))

def m_route_Translator_pass (k : Nat) (t : T_route_Translator) (v_at : Int) : Option T_route_Translator :=
  bi (m_slices_DeleteFunc_route_entry_route_entry k t.list v_at (⟨t.nat, v_at, t.v_next, []⟩ : T_route_Translator)) fun y1 => some (⟨t.nat, v_at, t.v_next, y1⟩ : T_route_Translator)

def m_route_Translator_free_1 (x : T_route_entry) (x2 : Int) : Option Bool :=
  some ((x.port : Int) == x2)

def m_slices_IndexFunc_route_entry_route_entry_3 (s : List T_route_entry) (f : Int) : Option Int :=
  bi (gd (decide ((s.length : Int) ≤ 9223372036854775807)) (rangeI (σ := Unit) (ρ := Int) (fun i1 s2 => bi (getZ s (i1 : Int)) fun x13 => bi (m_route_Translator_free_1 x13 f) fun y16 => bif y16 then (bi (some (i1 : Int)) fun v => some (.out v)) else (some (.go ()))) (s.length : Int) ())) fun q => goI q fun a6 => some (-1)

def m_slices_ContainsFunc_route_entry_route_entry (s : List T_route_entry) (f : Int) : Option Bool :=
  bi (m_slices_IndexFunc_route_entry_route_entry_3 s f) fun y1 => some (decide ((y1 : Int) ≥ 0))

def m_route_Translator_after (t : T_route_Translator) (port : Int) : Option Int :=
  bif (port : Int) == (wi ((wi (t.nat.First + t.nat.Ports)) - 1)) then (some t.nat.First) else (some (wi (port + 1)))

def m_route_Translator_free (k : Nat) (t : T_route_Translator) : Option (Int × T_route_Translator) :=
  bi (loopM (σ := Int) (ρ := Int) (fun s2 => bi (m_slices_ContainsFunc_route_entry_route_entry t.list s2) fun y11 => bif y11 then (bi (m_route_Translator_after t s2) fun y14 => some (.go y14)) else (some (.out s2))) k t.v_next) fun q4 => bi (m_route_Translator_after t q4) fun y17 => some (q4, (⟨t.nat, t.now, y17, t.list⟩ : T_route_Translator))

def m_slices_Index_api_Spot_api_Spot (s : List T_api_Spot) (v : T_api_Spot) : Option Int :=
  bi (rangeM (σ := Unit) (ρ := Int) (fun i1 x3 s2 => bif ((((v.Addr.Six : Bool) == x3.Addr.Six) && (((v.Addr.Hi : Int) == x3.Addr.Hi) && (((v.Addr.Lo : Int) == x3.Addr.Lo) && true))) && (((v.Port : Int) == x3.Port) && true)) then (bi (some (i1 : Int)) fun v => some (.out v)) else (some (.go ()))) 0 s ()) fun q => goI q fun a6 => some (-1)

def m_slices_Contains_api_Spot_api_Spot (s : List T_api_Spot) (v : T_api_Spot) : Option Bool :=
  bi (m_slices_Index_api_Spot_api_Spot s v) fun y1 => some (decide ((y1 : Int) ≥ 0))

def m_route_Translator_Out (k : Nat) (t : T_route_Translator) (v_at : Int) (v_from : T_api_Spot) (to : T_api_Spot) (al : List Bool) : Option (T_api_Spot × Int × T_route_Translator × (List Bool)) :=
  bi (m_route_Translator_timeFault t v_at) fun y1 => bif (y1 : Int) != 0 then (some ((⟨(⟨false, 0, 0⟩ : T_api_Addr), 0⟩ : T_api_Spot), y1, t, al)) else (bi (loopM (σ := Int) (ρ := Unit ⊕ (T_api_Spot × Int × T_route_Translator × (List Bool))) (fun s6 => bif decide ((s6 : Int) < 2) then (bi (getZ ([v_from, to] : List T_api_Spot) s6) fun x16 => bi (m_route_spotFault x16) fun y18 => bif (y18 : Int) != 0 then (bi (some ((⟨(⟨false, 0, 0⟩ : T_api_Addr), 0⟩ : T_api_Spot), y18, t, al)) fun v => some (.out (.inr v))) else (some (.go (wi (s6 + 1))))) else (some (.out (.inl ())))) k 0) fun q => orI q fun a10 => bi (m_route_Translator_lasting t v_at) fun y25 => bi (m_route_Translator_find t v_at v_from to) fun y27 => bif ((decide ((y27 : Int) < 0)) && ((decide ((y25 : Int) ≥ t.nat.Ports)) || (decide ((y25 : Int) ≥ 2000)))) then (some ((⟨(⟨false, 0, 0⟩ : T_api_Addr), 0⟩ : T_api_Spot), 12, t, al)) else (bi (m_route_Translator_pass k t v_at) fun y31 => bi (m_route_Translator_find y31 v_at v_from to) fun y33 => bi (bif decide ((y33 : Int) < 0) then (bi (m_route_Translator_free k y31) fun y38 => bi (m_route_seen to y38.2.nat.Maps) fun y40 => bi (apd y38.2.list [(⟨v_from, y38.1, y40, 0, (1, [])⟩ : T_route_entry)]) fun y42 => some (y38.2.nat.Maps, y38.2.nat.Lets, y38.2.nat.Timeout, y38.2.nat.First, y38.2.nat.Ports, y38.2.nat.Outer.Six, y38.2.nat.Outer.Hi, y38.2.nat.Outer.Lo, y38.2.now, y38.2.v_next, y42, (y31.list.length : Int))) else (some (y31.nat.Maps, y31.nat.Lets, y31.nat.Timeout, y31.nat.First, y31.nat.Ports, y31.nat.Outer.Six, y31.nat.Outer.Hi, y31.nat.Outer.Lo, y31.now, y31.v_next, y31.list, y33))) fun q35 => bi (getZ q35.2.2.2.2.2.2.2.2.2.2.1 q35.2.2.2.2.2.2.2.2.2.2.2) fun x45 => bi (m_slices_Contains_api_Spot_api_Spot (((⟨x45.inner, x45.port, x45.dep, v_at, x45.sent⟩ : T_route_entry).sent).2) to) fun y49 => bi (bif !y49 then (bi (appT al ((⟨x45.inner, x45.port, x45.dep, v_at, x45.sent⟩ : T_route_entry).sent) [to]) fun y54 => some (y54.2, (q35.2.2.2.2.2.2.2.2.2.2.1.set q35.2.2.2.2.2.2.2.2.2.2.2.toNat (⟨x45.inner, x45.port, x45.dep, v_at, x45.sent⟩ : T_route_entry)).set q35.2.2.2.2.2.2.2.2.2.2.2.toNat (⟨(⟨(((⟨x45.inner, x45.port, x45.dep, v_at, x45.sent⟩ : T_route_entry).inner).Addr), ((⟨x45.inner, x45.port, x45.dep, v_at, x45.sent⟩ : T_route_entry).inner).Port⟩ : T_api_Spot), (⟨x45.inner, x45.port, x45.dep, v_at, x45.sent⟩ : T_route_entry).port, (⟨(((⟨x45.inner, x45.port, x45.dep, v_at, x45.sent⟩ : T_route_entry).dep).Addr), ((⟨x45.inner, x45.port, x45.dep, v_at, x45.sent⟩ : T_route_entry).dep).Port⟩ : T_api_Spot), (⟨x45.inner, x45.port, x45.dep, v_at, x45.sent⟩ : T_route_entry).last, y54.1⟩ : T_route_entry))) else (some (al, q35.2.2.2.2.2.2.2.2.2.2.1.set q35.2.2.2.2.2.2.2.2.2.2.2.toNat (⟨x45.inner, x45.port, x45.dep, v_at, x45.sent⟩ : T_route_entry)))) fun q51 => bi (getZ q51.2 ((q35.2.2.2.2.2.2.2.2.2.2.2.toNat : Nat) : Int)) fun x57 => some ((⟨(⟨q35.2.2.2.2.2.1, q35.2.2.2.2.2.2.1, q35.2.2.2.2.2.2.2.1⟩ : T_api_Addr), x57.port⟩ : T_api_Spot), 0, (⟨(⟨q35.1, q35.2.1, q35.2.2.1, q35.2.2.2.1, q35.2.2.2.2.1, (⟨q35.2.2.2.2.2.1, q35.2.2.2.2.2.2.1, q35.2.2.2.2.2.2.2.1⟩ : T_api_Addr)⟩ : T_api_Nat), q35.2.2.2.2.2.2.2.2.1, q35.2.2.2.2.2.2.2.2.2.1, q51.2⟩ : T_route_Translator), q51.1)))

def m_route_Translator_In_1 (s : T_api_Spot) (x : T_route_Translator) (x2 : T_api_Spot) : Option Bool :=
  bi (m_route_seen s x.nat.Lets) fun y1 => bi (m_route_seen x2 x.nat.Lets) fun y3 => some ((((y1.Addr.Six : Bool) == y3.Addr.Six) && (((y1.Addr.Hi : Int) == y3.Addr.Hi) && (((y1.Addr.Lo : Int) == y3.Addr.Lo) && true))) && (((y1.Port : Int) == y3.Port) && true))

def m_slices_IndexFunc_api_Spot_api_Spot (s : List T_api_Spot) (f : T_route_Translator) (f2 : T_api_Spot) : Option Int :=
  bi (rangeM (σ := Unit) (ρ := Int) (fun i1 x3 s2 => bi (m_route_Translator_In_1 x3 f f2) fun y12 => bif y12 then (bi (some (i1 : Int)) fun v => some (.out v)) else (some (.go ()))) 0 s ()) fun q => goI q fun a6 => some (-1)

def m_slices_ContainsFunc_api_Spot_api_Spot (s : List T_api_Spot) (f : T_route_Translator) (f2 : T_api_Spot) : Option Bool :=
  bi (m_slices_IndexFunc_api_Spot_api_Spot s f f2) fun y1 => some (decide ((y1 : Int) ≥ 0))

def m_route_Translator_In (k : Nat) (t : T_route_Translator) (v_at : Int) (v_from : T_api_Spot) (port : Int) : Option (T_api_Spot × Bool × Int × T_route_Translator) :=
  bi (m_route_Translator_timeFault t v_at) fun y1 => bif (y1 : Int) != 0 then (some ((⟨(⟨false, 0, 0⟩ : T_api_Addr), 0⟩ : T_api_Spot), false, y1, t)) else (bi (m_route_spotFault v_from) fun y5 => bif (y5 : Int) != 0 then (some ((⟨(⟨false, 0, 0⟩ : T_api_Addr), 0⟩ : T_api_Spot), false, y5, t)) else (bi (m_route_portFault port) fun y9 => bif (y9 : Int) != 0 then (some ((⟨(⟨false, 0, 0⟩ : T_api_Addr), 0⟩ : T_api_Spot), false, y9, t)) else (bi (m_route_Translator_pass k t v_at) fun y13 => bi (gd (decide ((y13.list.length : Int) ≤ 9223372036854775807)) (rangeI (σ := Unit) (ρ := T_api_Spot × Bool × Int × T_route_Translator) (fun i15 s16 => bi (getZ y13.list (i15 : Int)) fun x27 => bif (x27.port : Int) != port then (some (.go ())) else (bi (bif (y13.nat.Lets : Int) == 1 then (some true) else (bi (m_slices_ContainsFunc_api_Spot_api_Spot x27.sent.2 y13 v_from) fun y36 => some y36)) fun q32 => bif q32 then (bi (some (x27.inner, true, 0, y13)) fun v => some (.out v)) else (some (.go ())))) (y13.list.length : Int) ())) fun q => goI q fun a20 => some ((⟨(⟨false, 0, 0⟩ : T_api_Addr), 0⟩ : T_api_Spot), false, 0, y13))))

def m_route_peer_turn (k : Nat) (p : T_route_peer) (o : T_route_peer) (v_at : Int) (al : List Bool) : Option (T_route_peer × T_route_peer × (List Bool)) :=
  bi (gd (decide ((p.knows.length : Int) ≤ 9223372036854775807)) (rangeG (σ := Int × Int × Int × Int × Int × Bool × Int × Int × Int × Int × Int × Int × Int × Int × Int × Bool × Int × Int × Int × Int × Int × (List Bool) × (List T_route_entry) × (List T_route_entry) × (List T_api_Spot)) (fun i1 s2 => bi (getZ p.knows (i1 : Int)) fun x13 => bi m_route_inner fun y16 => bi (m_route_Translator_Out k (⟨(⟨s2.1, s2.2.1, s2.2.2.1, s2.2.2.2.1, s2.2.2.2.2.1, (⟨s2.2.2.2.2.2.1, s2.2.2.2.2.2.2.1, s2.2.2.2.2.2.2.2.1⟩ : T_api_Addr)⟩ : T_api_Nat), s2.2.2.2.2.2.2.2.2.1, s2.2.2.2.2.2.2.2.2.2.1, s2.2.2.2.2.2.2.2.2.2.2.2.2.2.2.2.2.2.2.2.2.2.2.1⟩ : T_route_Translator) v_at y16 x13 s2.2.2.2.2.2.2.2.2.2.2.2.2.2.2.2.2.2.2.2.2.2.1) fun y18 => bif (y18.2.1 : Int) != 0 then (some (y18.2.2.1.nat.Maps, y18.2.2.1.nat.Lets, y18.2.2.1.nat.Timeout, y18.2.2.1.nat.First, y18.2.2.1.nat.Ports, y18.2.2.1.nat.Outer.Six, y18.2.2.1.nat.Outer.Hi, y18.2.2.1.nat.Outer.Lo, y18.2.2.1.now, y18.2.2.1.v_next, s2.2.2.2.2.2.2.2.2.2.2.1, s2.2.2.2.2.2.2.2.2.2.2.2.1, s2.2.2.2.2.2.2.2.2.2.2.2.2.1, s2.2.2.2.2.2.2.2.2.2.2.2.2.2.1, s2.2.2.2.2.2.2.2.2.2.2.2.2.2.2.1, s2.2.2.2.2.2.2.2.2.2.2.2.2.2.2.2.1, s2.2.2.2.2.2.2.2.2.2.2.2.2.2.2.2.2.1, s2.2.2.2.2.2.2.2.2.2.2.2.2.2.2.2.2.2.1, s2.2.2.2.2.2.2.2.2.2.2.2.2.2.2.2.2.2.2.1, s2.2.2.2.2.2.2.2.2.2.2.2.2.2.2.2.2.2.2.2.1, s2.2.2.2.2.2.2.2.2.2.2.2.2.2.2.2.2.2.2.2.2.1, y18.2.2.2, y18.2.2.1.list, s2.2.2.2.2.2.2.2.2.2.2.2.2.2.2.2.2.2.2.2.2.2.2.2.1, s2.2.2.2.2.2.2.2.2.2.2.2.2.2.2.2.2.2.2.2.2.2.2.2.2)) else (bi (m_route_Translator_In k (⟨(⟨s2.2.2.2.2.2.2.2.2.2.2.1, s2.2.2.2.2.2.2.2.2.2.2.2.1, s2.2.2.2.2.2.2.2.2.2.2.2.2.1, s2.2.2.2.2.2.2.2.2.2.2.2.2.2.1, s2.2.2.2.2.2.2.2.2.2.2.2.2.2.2.1, (⟨s2.2.2.2.2.2.2.2.2.2.2.2.2.2.2.2.1, s2.2.2.2.2.2.2.2.2.2.2.2.2.2.2.2.2.1, s2.2.2.2.2.2.2.2.2.2.2.2.2.2.2.2.2.2.1⟩ : T_api_Addr)⟩ : T_api_Nat), s2.2.2.2.2.2.2.2.2.2.2.2.2.2.2.2.2.2.2.1, s2.2.2.2.2.2.2.2.2.2.2.2.2.2.2.2.2.2.2.2.1, s2.2.2.2.2.2.2.2.2.2.2.2.2.2.2.2.2.2.2.2.2.2.2.2.1⟩ : T_route_Translator) v_at y18.1 x13.Port) fun y22 => bif !y22.2.1 then (some (y18.2.2.1.nat.Maps, y18.2.2.1.nat.Lets, y18.2.2.1.nat.Timeout, y18.2.2.1.nat.First, y18.2.2.1.nat.Ports, y18.2.2.1.nat.Outer.Six, y18.2.2.1.nat.Outer.Hi, y18.2.2.1.nat.Outer.Lo, y18.2.2.1.now, y18.2.2.1.v_next, y22.2.2.2.nat.Maps, y22.2.2.2.nat.Lets, y22.2.2.2.nat.Timeout, y22.2.2.2.nat.First, y22.2.2.2.nat.Ports, y22.2.2.2.nat.Outer.Six, y22.2.2.2.nat.Outer.Hi, y22.2.2.2.nat.Outer.Lo, y22.2.2.2.now, y22.2.2.2.v_next, s2.2.2.2.2.2.2.2.2.2.2.2.2.2.2.2.2.2.2.2.2.1, y18.2.2.2, y18.2.2.1.list, y22.2.2.2.list, s2.2.2.2.2.2.2.2.2.2.2.2.2.2.2.2.2.2.2.2.2.2.2.2.2)) else (bi (bif (s2.2.2.2.2.2.2.2.2.2.2.2.2.2.2.2.2.2.2.2.2.1 : Int) == 0 then (some v_at) else (some s2.2.2.2.2.2.2.2.2.2.2.2.2.2.2.2.2.2.2.2.2.1)) fun q26 => bi (m_slices_Contains_api_Spot_api_Spot s2.2.2.2.2.2.2.2.2.2.2.2.2.2.2.2.2.2.2.2.2.2.2.2.2 y18.1) fun y30 => bif !y30 then (bi (apd s2.2.2.2.2.2.2.2.2.2.2.2.2.2.2.2.2.2.2.2.2.2.2.2.2 [y18.1]) fun y33 => some (y18.2.2.1.nat.Maps, y18.2.2.1.nat.Lets, y18.2.2.1.nat.Timeout, y18.2.2.1.nat.First, y18.2.2.1.nat.Ports, y18.2.2.1.nat.Outer.Six, y18.2.2.1.nat.Outer.Hi, y18.2.2.1.nat.Outer.Lo, y18.2.2.1.now, y18.2.2.1.v_next, y22.2.2.2.nat.Maps, y22.2.2.2.nat.Lets, y22.2.2.2.nat.Timeout, y22.2.2.2.nat.First, y22.2.2.2.nat.Ports, y22.2.2.2.nat.Outer.Six, y22.2.2.2.nat.Outer.Hi, y22.2.2.2.nat.Outer.Lo, y22.2.2.2.now, y22.2.2.2.v_next, q26, y18.2.2.2, y18.2.2.1.list, y22.2.2.2.list, y33)) else (some (y18.2.2.1.nat.Maps, y18.2.2.1.nat.Lets, y18.2.2.1.nat.Timeout, y18.2.2.1.nat.First, y18.2.2.1.nat.Ports, y18.2.2.1.nat.Outer.Six, y18.2.2.1.nat.Outer.Hi, y18.2.2.1.nat.Outer.Lo, y18.2.2.1.now, y18.2.2.1.v_next, y22.2.2.2.nat.Maps, y22.2.2.2.nat.Lets, y22.2.2.2.nat.Timeout, y22.2.2.2.nat.First, y22.2.2.2.nat.Ports, y22.2.2.2.nat.Outer.Six, y22.2.2.2.nat.Outer.Hi, y22.2.2.2.nat.Outer.Lo, y22.2.2.2.now, y22.2.2.2.v_next, q26, y18.2.2.2, y18.2.2.1.list, y22.2.2.2.list, s2.2.2.2.2.2.2.2.2.2.2.2.2.2.2.2.2.2.2.2.2.2.2.2.2))))) (p.knows.length : Int) (p.t.nat.Maps, p.t.nat.Lets, p.t.nat.Timeout, p.t.nat.First, p.t.nat.Ports, p.t.nat.Outer.Six, p.t.nat.Outer.Hi, p.t.nat.Outer.Lo, p.t.now, p.t.v_next, o.t.nat.Maps, o.t.nat.Lets, o.t.nat.Timeout, o.t.nat.First, o.t.nat.Ports, o.t.nat.Outer.Six, o.t.nat.Outer.Hi, o.t.nat.Outer.Lo, o.t.now, o.t.v_next, o.heard, al, p.t.list, o.t.list, o.knows))) fun q4 => some ((⟨(⟨(⟨q4.1, q4.2.1, q4.2.2.1, q4.2.2.2.1, q4.2.2.2.2.1, (⟨q4.2.2.2.2.2.1, q4.2.2.2.2.2.2.1, q4.2.2.2.2.2.2.2.1⟩ : T_api_Addr)⟩ : T_api_Nat), q4.2.2.2.2.2.2.2.2.1, q4.2.2.2.2.2.2.2.2.2.1, q4.2.2.2.2.2.2.2.2.2.2.2.2.2.2.2.2.2.2.2.2.2.2.1⟩ : T_route_Translator), p.knows, p.heard⟩ : T_route_peer), (⟨(⟨(⟨q4.2.2.2.2.2.2.2.2.2.2.1, q4.2.2.2.2.2.2.2.2.2.2.2.1, q4.2.2.2.2.2.2.2.2.2.2.2.2.1, q4.2.2.2.2.2.2.2.2.2.2.2.2.2.1, q4.2.2.2.2.2.2.2.2.2.2.2.2.2.2.1, (⟨q4.2.2.2.2.2.2.2.2.2.2.2.2.2.2.2.1, q4.2.2.2.2.2.2.2.2.2.2.2.2.2.2.2.2.1, q4.2.2.2.2.2.2.2.2.2.2.2.2.2.2.2.2.2.1⟩ : T_api_Addr)⟩ : T_api_Nat), q4.2.2.2.2.2.2.2.2.2.2.2.2.2.2.2.2.2.2.1, q4.2.2.2.2.2.2.2.2.2.2.2.2.2.2.2.2.2.2.2.1, q4.2.2.2.2.2.2.2.2.2.2.2.2.2.2.2.2.2.2.2.2.2.2.2.1⟩ : T_route_Translator), q4.2.2.2.2.2.2.2.2.2.2.2.2.2.2.2.2.2.2.2.2.2.2.2.2, q4.2.2.2.2.2.2.2.2.2.2.2.2.2.2.2.2.2.2.2.2.1⟩ : T_route_peer), q4.2.2.2.2.2.2.2.2.2.2.2.2.2.2.2.2.2.2.2.2.2.1)

def m_route_Can (k : Nat) (a : T_api_Nat) (b : T_api_Nat) (rounds : Int) (al : List Bool) : Option (T_api_Punched × Int × (List Bool)) :=
  bi (loopM (σ := Int) (ρ := Unit ⊕ (T_api_Punched × Int × (List Bool))) (fun s2 => bif decide ((s2 : Int) < 2) then (bi (getZ ([a, b] : List T_api_Nat) s2) fun x12 => bi (m_route_natFault x12) fun y14 => bif (y14 : Int) != 0 then (bi (some ((⟨0, 0⟩ : T_api_Punched), y14, al)) fun v => some (.out (.inr v))) else (some (.go (wi (s2 + 1))))) else (some (.out (.inl ())))) k 0) fun q => orI q fun a6 => bif (((((a.Outer.Six : Bool) == b.Outer.Six) && (((a.Outer.Hi : Int) == b.Outer.Hi) && (((a.Outer.Lo : Int) == b.Outer.Lo) && true))) || (((a.Outer.Six : Bool) == false) && (((a.Outer.Hi : Int) == 0) && (((a.Outer.Lo : Int) == 16843009) && true)))) || (((b.Outer.Six : Bool) == false) && (((b.Outer.Hi : Int) == 0) && (((b.Outer.Lo : Int) == 16843009) && true)))) then (some ((⟨0, 0⟩ : T_api_Punched), 13, al)) else (bi (m_kit_Outside rounds 0 50) fun y23 => bif y23 then (some ((⟨0, 0⟩ : T_api_Punched), 1, al)) else (bi m_route_inner fun y27 => bi (m_route_Translator_Out k (⟨a, 0, a.First, ([] : List T_route_entry)⟩ : T_route_Translator) 0 y27 (⟨(⟨false, 0, 16843009⟩ : T_api_Addr), 3478⟩ : T_api_Spot) al) fun y29 => bi m_route_inner fun y31 => bi (m_route_Translator_Out k (⟨b, 0, b.First, ([] : List T_route_entry)⟩ : T_route_Translator) 0 y31 (⟨(⟨false, 0, 16843009⟩ : T_api_Addr), 3478⟩ : T_api_Spot) y29.2.2.2) fun y33 => bi (loopM (σ := (List Bool) × Int × Int × Int × Int × Int × Bool × Int × Int × Int × Int × Int × Int × Int × Int × Int × Int × Bool × Int × Int × Int × Int × Int × (List T_route_entry) × (List T_route_entry) × (List T_api_Spot) × (List T_api_Spot) × Int) (ρ := (List Bool) × Int × Int × Int × Int × Int × Bool × Int × Int × Int × Int × Int × Int × Int × Int × Int × Int × Bool × Int × Int × Int × Int × Int × (List T_route_entry) × (List T_route_entry) × (List T_api_Spot) × (List T_api_Spot)) (fun s36 => bif decide ((s36.2.2.2.2.2.2.2.2.2.2.2.2.2.2.2.2.2.2.2.2.2.2.2.2.2.2.2 : Int) ≤ rounds) then (bi (m_route_peer_turn k (⟨(⟨(⟨s36.2.1, s36.2.2.1, s36.2.2.2.1, s36.2.2.2.2.1, s36.2.2.2.2.2.1, (⟨s36.2.2.2.2.2.2.1, s36.2.2.2.2.2.2.2.1, s36.2.2.2.2.2.2.2.2.1⟩ : T_api_Addr)⟩ : T_api_Nat), s36.2.2.2.2.2.2.2.2.2.1, s36.2.2.2.2.2.2.2.2.2.2.1, s36.2.2.2.2.2.2.2.2.2.2.2.2.2.2.2.2.2.2.2.2.2.2.2.1⟩ : T_route_Translator), s36.2.2.2.2.2.2.2.2.2.2.2.2.2.2.2.2.2.2.2.2.2.2.2.2.2.1, s36.2.2.2.2.2.2.2.2.2.2.2.1⟩ : T_route_peer) (⟨(⟨(⟨s36.2.2.2.2.2.2.2.2.2.2.2.2.1, s36.2.2.2.2.2.2.2.2.2.2.2.2.2.1, s36.2.2.2.2.2.2.2.2.2.2.2.2.2.2.1, s36.2.2.2.2.2.2.2.2.2.2.2.2.2.2.2.1, s36.2.2.2.2.2.2.2.2.2.2.2.2.2.2.2.2.1, (⟨s36.2.2.2.2.2.2.2.2.2.2.2.2.2.2.2.2.2.1, s36.2.2.2.2.2.2.2.2.2.2.2.2.2.2.2.2.2.2.1, s36.2.2.2.2.2.2.2.2.2.2.2.2.2.2.2.2.2.2.2.1⟩ : T_api_Addr)⟩ : T_api_Nat), s36.2.2.2.2.2.2.2.2.2.2.2.2.2.2.2.2.2.2.2.2.1, s36.2.2.2.2.2.2.2.2.2.2.2.2.2.2.2.2.2.2.2.2.2.1, s36.2.2.2.2.2.2.2.2.2.2.2.2.2.2.2.2.2.2.2.2.2.2.2.2.1⟩ : T_route_Translator), s36.2.2.2.2.2.2.2.2.2.2.2.2.2.2.2.2.2.2.2.2.2.2.2.2.2.2.1, s36.2.2.2.2.2.2.2.2.2.2.2.2.2.2.2.2.2.2.2.2.2.2.1⟩ : T_route_peer) s36.2.2.2.2.2.2.2.2.2.2.2.2.2.2.2.2.2.2.2.2.2.2.2.2.2.2.2 s36.1) fun y46 => bi (m_route_peer_turn k y46.2.1 y46.1 s36.2.2.2.2.2.2.2.2.2.2.2.2.2.2.2.2.2.2.2.2.2.2.2.2.2.2.2 y46.2.2) fun y48 => some (.go (y48.2.2, y48.2.1.t.nat.Maps, y48.2.1.t.nat.Lets, y48.2.1.t.nat.Timeout, y48.2.1.t.nat.First, y48.2.1.t.nat.Ports, y48.2.1.t.nat.Outer.Six, y48.2.1.t.nat.Outer.Hi, y48.2.1.t.nat.Outer.Lo, y48.2.1.t.now, y48.2.1.t.v_next, y48.2.1.heard, y48.1.t.nat.Maps, y48.1.t.nat.Lets, y48.1.t.nat.Timeout, y48.1.t.nat.First, y48.1.t.nat.Ports, y48.1.t.nat.Outer.Six, y48.1.t.nat.Outer.Hi, y48.1.t.nat.Outer.Lo, y48.1.t.now, y48.1.t.v_next, y48.1.heard, y48.2.1.t.list, y48.1.t.list, y48.2.1.knows, y48.1.knows, wi (s36.2.2.2.2.2.2.2.2.2.2.2.2.2.2.2.2.2.2.2.2.2.2.2.2.2.2.2 + 1)))) else (some (.out (s36.1, s36.2.1, s36.2.2.1, s36.2.2.2.1, s36.2.2.2.2.1, s36.2.2.2.2.2.1, s36.2.2.2.2.2.2.1, s36.2.2.2.2.2.2.2.1, s36.2.2.2.2.2.2.2.2.1, s36.2.2.2.2.2.2.2.2.2.1, s36.2.2.2.2.2.2.2.2.2.2.1, s36.2.2.2.2.2.2.2.2.2.2.2.1, s36.2.2.2.2.2.2.2.2.2.2.2.2.1, s36.2.2.2.2.2.2.2.2.2.2.2.2.2.1, s36.2.2.2.2.2.2.2.2.2.2.2.2.2.2.1, s36.2.2.2.2.2.2.2.2.2.2.2.2.2.2.2.1, s36.2.2.2.2.2.2.2.2.2.2.2.2.2.2.2.2.1, s36.2.2.2.2.2.2.2.2.2.2.2.2.2.2.2.2.2.1, s36.2.2.2.2.2.2.2.2.2.2.2.2.2.2.2.2.2.2.1, s36.2.2.2.2.2.2.2.2.2.2.2.2.2.2.2.2.2.2.2.1, s36.2.2.2.2.2.2.2.2.2.2.2.2.2.2.2.2.2.2.2.2.1, s36.2.2.2.2.2.2.2.2.2.2.2.2.2.2.2.2.2.2.2.2.2.1, s36.2.2.2.2.2.2.2.2.2.2.2.2.2.2.2.2.2.2.2.2.2.2.1, s36.2.2.2.2.2.2.2.2.2.2.2.2.2.2.2.2.2.2.2.2.2.2.2.1, s36.2.2.2.2.2.2.2.2.2.2.2.2.2.2.2.2.2.2.2.2.2.2.2.2.1, s36.2.2.2.2.2.2.2.2.2.2.2.2.2.2.2.2.2.2.2.2.2.2.2.2.2.1, s36.2.2.2.2.2.2.2.2.2.2.2.2.2.2.2.2.2.2.2.2.2.2.2.2.2.2.1)))) k (y33.2.2.2, y29.2.2.1.nat.Maps, y29.2.2.1.nat.Lets, y29.2.2.1.nat.Timeout, y29.2.2.1.nat.First, y29.2.2.1.nat.Ports, y29.2.2.1.nat.Outer.Six, y29.2.2.1.nat.Outer.Hi, y29.2.2.1.nat.Outer.Lo, y29.2.2.1.now, y29.2.2.1.v_next, 0, y33.2.2.1.nat.Maps, y33.2.2.1.nat.Lets, y33.2.2.1.nat.Timeout, y33.2.2.1.nat.First, y33.2.2.1.nat.Ports, y33.2.2.1.nat.Outer.Six, y33.2.2.1.nat.Outer.Hi, y33.2.2.1.nat.Outer.Lo, y33.2.2.1.now, y33.2.2.1.v_next, 0, y29.2.2.1.list, y33.2.2.1.list, [y33.1], [y29.1], 1)) fun q38 => some ((⟨q38.2.2.2.2.2.2.2.2.2.2.2.1, q38.2.2.2.2.2.2.2.2.2.2.2.2.2.2.2.2.2.2.2.2.2.2.1⟩ : T_api_Punched), 0, q38.1)))

def m_laneref1_in (n : Int) (low : Int) (high : Int) : Option Bool :=
  some ((decide ((low : Int) ≤ n)) && (decide ((n : Int) ≤ high)))

def m_laneref2_AddrFault (a : T_api_Addr) : Option Int :=
  bif ((!a.Six) && ((decide ((a.Hi : Int) > 0)) || (decide ((a.Lo : Int) > 4294967295)))) then (some 3) else (some 0)

def m_laneref1_NatFault (n : T_api_Nat) : Option Int :=
  bi (m_laneref1_in n.Maps 1 3) fun y1 => bi (bif !y1 then (some true) else (bi (m_laneref1_in n.Lets 1 3) fun y7 => some (!y7))) fun q3 => bif q3 then (some 4) else (bi (m_laneref1_in n.Timeout 1 1000000) fun y11 => bi (bif !y11 then (some true) else (bi (m_laneref1_in n.First 1 65535) fun y17 => some (!y17))) fun q13 => bi (bif q13 then (some true) else (bi (m_laneref1_in n.Ports 1 (wi (65536 - n.First))) fun y23 => some (!y23))) fun q19 => bif q19 then (some 1) else (bi (m_laneref2_AddrFault n.Outer) fun y27 => some y27))

def m_cmp_Or_api_Errno (vals : List Int) : Option Int :=
  bi (rangeM (σ := Unit) (ρ := Int) (fun i1 x3 s2 => bif (x3 : Int) != 0 then (bi (some x3) fun v => some (.out v)) else (some (.go ()))) 0 vals ()) fun q => goI q fun a6 => some 0

def m_laneref1_server  : Option T_api_Spot :=
  some (⟨(⟨false, 0, 16843009⟩ : T_api_Addr), 3478⟩ : T_api_Spot)

def m_laneref1_CanFault (a : T_api_Nat) (b : T_api_Nat) (rounds : Int) : Option Int :=
  bi (m_laneref1_NatFault (⟨a.Maps, a.Lets, a.Timeout, a.First, a.Ports, a.Outer⟩ : T_api_Nat)) fun y1 => bi (m_laneref1_NatFault b) fun y3 => bi (m_cmp_Or_api_Errno [y1, y3]) fun y5 => bif (y5 : Int) != 0 then (some y5) else (bi (bif (((a.Outer.Six : Bool) == b.Outer.Six) && (((a.Outer.Hi : Int) == b.Outer.Hi) && (((a.Outer.Lo : Int) == b.Outer.Lo) && true))) then (some true) else (bi m_laneref1_server fun y13 => bif (((a.Outer.Six : Bool) == y13.Addr.Six) && (((a.Outer.Hi : Int) == y13.Addr.Hi) && (((a.Outer.Lo : Int) == y13.Addr.Lo) && true))) then (some true) else (bi m_laneref1_server fun y17 => some (((b.Outer.Six : Bool) == y17.Addr.Six) && (((b.Outer.Hi : Int) == y17.Addr.Hi) && (((b.Outer.Lo : Int) == y17.Addr.Lo) && true)))))) fun q9 => bif q9 then (some 13) else (bi (m_laneref1_in rounds 0 50) fun y21 => bif !y21 then (some 1) else (some 0)))

def m_kit_IsKey (k : Nat) (s : Str) : Option Bool :=
  bi (loopM (σ := Int) (ρ := Unit ⊕ Bool) (fun s2 => bif decide ((s2 : Int) < (s.length : Int)) then (bi (getZ s s2) fun c12 => bif !(((decide (((c12.toNat : Int) : Int) ≥ 97)) && (decide (((c12.toNat : Int) : Int) ≤ 122))) || ((decide ((s2 : Int) > 0)) && ((((decide (((c12.toNat : Int) : Int) ≥ 48)) && (decide (((c12.toNat : Int) : Int) ≤ 57))) || (((c12.toNat : Int) : Int) == 45)) || (((c12.toNat : Int) : Int) == 95)))) then (bi (some false) fun v => some (.out (.inr v))) else (some (.go (wi (s2 + 1))))) else (some (.out (.inl ())))) k 0) fun q => orI q fun a6 => some ((!((s : Str) == [])) && (decide (((s.length : Int) : Int) ≤ 40)))

def m_cmp_Or_int (vals : List Int) : Option Int :=
  bi (rangeM (σ := Unit) (ρ := Int) (fun i1 x3 s2 => bif (x3 : Int) != 0 then (bi (some x3) fun v => some (.out v)) else (some (.go ()))) 0 vals ()) fun q => goI q fun a6 => some 0

def m_route_CheckLinks (k : Nat) (l : List T_api_Link) : Option Int :=
  bif decide (((l.length : Int) : Int) > 500) then (some 2) else (bi (rangeM (σ := Unit) (ρ := Int) (fun i3 x5 s4 => bi (m_kit_IsKey k x5.A) fun y14 => bi (bif !y14 then (some true) else (bi (m_kit_IsKey k x5.v_B) fun y20 => some (!y20))) fun q16 => bif q16 then (bi (some 5) fun v => some (.out v)) else (bif !(Op.bytesLess x5.A x5.v_B) then (bi (some 7) fun v => some (.out v)) else (bi (m_kit_Outside x5.Millis 0 1000000) fun y30 => bif y30 then (bi (some 1) fun v => some (.out v)) else (bi (bif decide (((i3 : Int) : Int) > 0) then (bi (getZ l (wi ((i3 : Int) - 1))) fun x39 => bi (m_strings_Compare x39.A x5.A) fun y41 => bi (getZ l (wi ((i3 : Int) - 1))) fun x43 => bi (m_strings_Compare x43.v_B x5.v_B) fun y45 => bi (m_cmp_Or_int [y41, y45]) fun y47 => some (decide ((y47 : Int) ≥ 0))) else (some false)) fun q36 => bif q36 then (bi (some 7) fun v => some (.out v)) else (some (.go ())))))) 0 l ()) fun q => goI q fun a8 => some 0)

def m_route_stepsOf (l : List T_api_Link) : Option (List (Str × (List T_route_step))) :=
  bi (rangeF (σ := List (Str × (List T_route_step))) (fun i1 x3 s2 => gd ((mGet s2 x3.A).isNone) (bi (apd ([] : List T_route_step) [(⟨x3.v_B, x3.Millis⟩ : T_route_step)]) fun y14 => gd ((mGet (mSet s2 x3.A y14) x3.v_B).isNone) (bi (apd ([] : List T_route_step) [(⟨x3.A, x3.Millis⟩ : T_route_step)]) fun y18 => some (mSet (mSet s2 x3.A y14) x3.v_B y18)))) 0 l ([] : List (Str × (List T_route_step)))) fun q4 => some q4

def m_route_far_less (a : T_route_far) (b : T_route_far) : Option Bool :=
  some ((decide ((a.millis : Int) < b.millis)) || (((a.millis : Int) == b.millis) && (decide ((a.links : Int) < b.links))))

def m_route_distances (k : Nat) (steps : List (Str × (List T_route_step))) (v_from : Str) : Option (List (Str × T_route_far)) :=
  bi (loopM (σ := (List (Str × T_route_far)) × (List (Str × Bool))) (ρ := List (Str × T_route_far)) (fun s2 => bi (rangeP (σ := Str × Bool) (fun x18 s17 => bi (bif !((mGet s2.2 x18.1).getD false) then (bi (bif !s17.2 then (some true) else (bi (m_route_far_less x18.2 ((mGet s2.1 s17.1).getD (⟨0, 0⟩ : T_route_far))) fun y58 => some y58)) fun q54 => some q54) else (some false)) fun q51 => bif q51 then (some (x18.1, true)) else (some (s17.1, s17.2))) s2.1 ([], false)) fun q22 => bif !q22.2 then (bi (some s2.1) fun v => some (.out v)) else (bi (rangeF (σ := List (Str × T_route_far)) (fun i30 x32 s31 => bi (bif !((mGet s31 x32.to).isSome) then (some true) else (bi (m_route_far_less (⟨wi ((((mGet s31 q22.1).getD (⟨0, 0⟩ : T_route_far)).millis) + x32.millis), wi ((((mGet s31 q22.1).getD (⟨0, 0⟩ : T_route_far)).links) + 1)⟩ : T_route_far) ((mGet s31 x32.to).getD (⟨0, 0⟩ : T_route_far))) fun y45 => some y45)) fun q41 => bif q41 then (some (mSet s31 x32.to (⟨wi ((((mGet s31 q22.1).getD (⟨0, 0⟩ : T_route_far)).millis) + x32.millis), wi ((((mGet s31 q22.1).getD (⟨0, 0⟩ : T_route_far)).links) + 1)⟩ : T_route_far))) else (some s31)) 0 ((mGet steps q22.1).getD []) s2.1) fun q33 => some (.go (q33, (mSet s2.2 q22.1 true))))) k ((mSet ([] : List (Str × T_route_far)) v_from (⟨0, 0⟩ : T_route_far)), ([] : List (Str × Bool)))) fun v => some v

def m_route_through (k : Nat) (l : List T_api_Link) (a : Str) (b : Str) : Option ((List Str) × Int × Int) :=
  bi (m_route_stepsOf l) fun y1 => bi (m_route_distances k y1 b) fun y3 => bif !((mGet y3 a).isSome) then (some ([], 0, 8)) else (bi (loopM (σ := (List Str) × Str) (ρ := List Str) (fun s8 => bif !((s8.2 : Str) == b) then (bi (rangeF (σ := Str) (fun i18 x20 s19 => bif (((((mGet y3 x20.to).isSome) && ((wi ((((mGet y3 x20.to).getD (⟨0, 0⟩ : T_route_far)).millis) + x20.millis) : Int) == (((mGet y3 s8.2).getD (⟨0, 0⟩ : T_route_far)).millis))) && ((wi ((((mGet y3 x20.to).getD (⟨0, 0⟩ : T_route_far)).links) + 1) : Int) == (((mGet y3 s8.2).getD (⟨0, 0⟩ : T_route_far)).links))) && (((s19 : Str) == []) || (Op.bytesLess x20.to s19))) then (some x20.to) else (some s19)) 0 ((mGet y1 s8.2).getD []) []) fun q21 => bi (apd s8.1 [q21]) fun y31 => some (.go (y31, q21))) else (some (.out s8.1))) k ([a], a)) fun q10 => some (q10, ((mGet y3 a).getD (⟨0, 0⟩ : T_route_far)).millis, 0))

def m_route_Through (k : Nat) (l : List T_api_Link) (a : Str) (b : Str) : Option ((List Str) × Int × Int) :=
  bi (m_route_CheckLinks k l) fun y1 => bif (y1 : Int) != 0 then (some ([], 0, y1)) else (bi (m_kit_IsKey k a) fun y5 => bi (bif !y5 then (some true) else (bi (m_kit_IsKey k b) fun y11 => some (!y11))) fun q7 => bif q7 then (some ([], 0, 5)) else (bi (m_route_through k l a b) fun y15 => some (y15.1, y15.2.1, y15.2.2)))

def m_slices_Equal_string_string (s1 : List Str) (s2 : List Str) : Option Bool :=
  bif ((s1.length : Int) : Int) != (s2.length : Int) then (some false) else (bi (rangeM (σ := Unit) (ρ := Bool) (fun i3 x5 s4 => bi (getZ s2 (i3 : Int)) fun x14 => bif !((x5 : Str) == x14) then (bi (some false) fun v => some (.out v)) else (some (.go ()))) 0 s1 ()) fun q => goI q fun a8 => some true)

def m_lanelaw1_routed (k : Nat) : Option Bool :=
  bi (m_route_Through k [(⟨[97], [98], 3⟩ : T_api_Link)] [98] [97]) fun y1 => bi (bif (((y1.2.2 : Int) == 0) && ((y1.2.1 : Int) == 3)) then (bi (m_slices_Equal_string_string y1.1 [[98], [97]]) fun y6 => some y6) else (some false)) fun q3 => some q3

def m_laneref1_NewTranslator (n : T_api_Nat) : Option T_laneref1_Translator :=
  some (⟨n, ([] : List T_laneref1_sent), 0, 0⟩ : T_laneref1_Translator)

def m_laneref2_in (n : Int) (low : Int) (high : Int) : Option Bool :=
  some ((decide ((low : Int) ≤ n)) && (decide ((n : Int) ≤ high)))

def m_laneref2_Moment (v_at : Int) : Option Bool :=
  bi (m_laneref2_in v_at 0 345686399) fun y1 => some y1

def m_laneref1_Translator_timeFault (t : T_laneref1_Translator) (v_at : Int) : Option Int :=
  bi (m_laneref2_Moment v_at) fun y1 => bif !y1 then (some 1) else (bif decide ((v_at : Int) < t.now) then (some 7) else (some 0))

def m_laneref1_SpotFault (s : T_api_Spot) : Option Int :=
  bi (m_laneref2_AddrFault s.Addr) fun y1 => bif (y1 : Int) != 0 then (some y1) else (bi (m_laneref1_in s.Port 1 65535) fun y5 => bif !y5 then (some 1) else (some 0))

def m_laneref1_Translator_same (t : T_laneref1_Translator) (a : T_api_Spot) (b : T_api_Spot) : Option Bool :=
  bif (t.n.Maps : Int) == 1 then (some true) else (bif (t.n.Maps : Int) == 2 then (some (((a.Addr.Six : Bool) == b.Addr.Six) && (((a.Addr.Hi : Int) == b.Addr.Hi) && (((a.Addr.Lo : Int) == b.Addr.Lo) && true)))) else (some ((((a.Addr.Six : Bool) == b.Addr.Six) && (((a.Addr.Hi : Int) == b.Addr.Hi) && (((a.Addr.Lo : Int) == b.Addr.Lo) && true))) && (((a.Port : Int) == b.Port) && true))))

def m_laneref1_Translator_lasting_1 (e : List T_laneref1_sent) (x : T_laneref1_sent) (x2 : T_laneref1_Translator) : Option Bool :=
  bi (bi (getZ e 0) fun x3 => bif ((((x3.v_from.Addr.Six : Bool) == x.v_from.Addr.Six) && (((x3.v_from.Addr.Hi : Int) == x.v_from.Addr.Hi) && (((x3.v_from.Addr.Lo : Int) == x.v_from.Addr.Lo) && true))) && (((x3.v_from.Port : Int) == x.v_from.Port) && true)) then (bi (getZ e 0) fun x6 => bi (m_laneref1_Translator_same x2 x6.to x.to) fun y8 => bif y8 then (bi (getZ e (wi ((e.length : Int) - 1))) fun x11 => some (decide ((wi (x.v_at - x11.v_at) : Int) < x2.n.Timeout))) else (some false)) else (some false)) fun q1 => some q1

def m_slices_IndexFunc_laneref1_sent_laneref1_sent (s : List (Tl T_laneref1_sent)) (f : T_laneref1_sent) (f2 : T_laneref1_Translator) : Option Int :=
  bi (gd (decide ((s.length : Int) ≤ 9223372036854775807)) (rangeI (σ := Unit) (ρ := Int) (fun i1 s2 => bi (getZ s (i1 : Int)) fun x13 => bi (m_laneref1_Translator_lasting_1 x13.2 f f2) fun y16 => bif y16 then (bi (some (i1 : Int)) fun v => some (.out v)) else (some (.go ()))) (s.length : Int) ())) fun q => goI q fun a6 => some (-1)

def m_laneref1_Translator_lasting_2 (e : List T_laneref1_sent) (x : Int) (x2 : T_laneref1_Translator) : Option Bool :=
  bi (getZ e (wi ((e.length : Int) - 1))) fun x1 => some (decide ((wi (x - x1.v_at) : Int) ≥ x2.n.Timeout))

def m_slices_IndexFunc_laneref1_sent_laneref1_sent_2 (s : List (Tl T_laneref1_sent)) (f : Int) (f2 : T_laneref1_Translator) : Option Int :=
  bi (gd (decide ((s.length : Int) ≤ 9223372036854775807)) (rangeI (σ := Unit) (ρ := Int) (fun i1 s2 => bi (getZ s (i1 : Int)) fun x13 => bi (m_laneref1_Translator_lasting_2 x13.2 f f2) fun y16 => bif y16 then (bi (some (i1 : Int)) fun v => some (.out v)) else (some (.go ()))) (s.length : Int) ())) fun q => goI q fun a6 => some (-1)

def m_slices_DeleteFunc_laneref1_sent_laneref1_sent (k : Nat) (s : List (Tl T_laneref1_sent)) (f : Int) (f2 : T_laneref1_Translator) : Option (List (Tl T_laneref1_sent)) :=
  bi (m_slices_IndexFunc_laneref1_sent_laneref1_sent_2 s f f2) fun y1 => bif (y1 : Int) == (-1) then (some s) else (bi (loopM (σ := (List (Tl T_laneref1_sent)) × Int × Int) (ρ := (List (Tl T_laneref1_sent)) × Int) (fun s6 => bif decide ((s6.2.2 : Int) < (s6.1.length : Int)) then (bi (getZ s6.1 s6.2.2) fun x16 => bi (m_laneref1_Translator_lasting_2 x16.2 f f2) fun y19 => bif !y19 then (bi (getZ s6.1 s6.2.1) fun x22 => some (.go (s6.1.set s6.2.1.toNat x16, wi (s6.2.1 + 1), wi (s6.2.2 + 1)))) else (some (.go (s6.1, s6.2.1, wi (s6.2.2 + 1))))) else (some (.out (s6.1, s6.2.1)))) k (s, y1, wi (y1 + 1))) fun q8 => bi (subZ q8.1 q8.2 (q8.1.length : Int)) fun z27 => some (q8.1.take q8.2.toNat))

def m_laneref1_Translator_lasting (k : Nat) (t : T_laneref1_Translator) (v_at : Int) (al : List Bool) : Option ((List (Tl T_laneref1_sent)) × (List Bool)) :=
  bi (gd (decide ((t.out.length : Int) ≤ 9223372036854775807)) (rangeG (σ := (List Bool) × (List (Tl T_laneref1_sent))) (fun i1 s2 => bi (getZ t.out (i1 : Int)) fun x13 => bi (m_slices_IndexFunc_laneref1_sent_laneref1_sent s2.2 x13 t) fun y16 => bif decide ((y16 : Int) < 0) then (bi (apd s2.2 [(1, [x13])]) fun y19 => some (s2.1, y19)) else (bi (getZ s2.2 y16) fun x22 => bi (appT s2.1 x22 [x13]) fun y25 => bi (getZ s2.2 y16) fun x27 => some (y25.2, s2.2.set y16.toNat y25.1))) (t.out.length : Int) (al, ([] : List (Tl T_laneref1_sent))))) fun q4 => bi (m_slices_DeleteFunc_laneref1_sent_laneref1_sent k q4.2 v_at t) fun y30 => some (y30, q4.1)

def m_laneref1_Translator_Out_1 (e : List T_laneref1_sent) (x : Int) : Option Bool :=
  bi (getZ e 0) fun x1 => some ((x1.port : Int) == x)

def m_slices_IndexFunc_laneref1_sent_laneref1_sent_3 (s : List (Tl T_laneref1_sent)) (f : Int) : Option Int :=
  bi (gd (decide ((s.length : Int) ≤ 9223372036854775807)) (rangeI (σ := Unit) (ρ := Int) (fun i1 s2 => bi (getZ s (i1 : Int)) fun x13 => bi (m_laneref1_Translator_Out_1 x13.2 f) fun y16 => bif y16 then (bi (some (i1 : Int)) fun v => some (.out v)) else (some (.go ()))) (s.length : Int) ())) fun q => goI q fun a6 => some (-1)

def m_slices_ContainsFunc_laneref1_sent_laneref1_sent (s : List (Tl T_laneref1_sent)) (f : Int) : Option Bool :=
  bi (m_slices_IndexFunc_laneref1_sent_laneref1_sent_3 s f) fun y1 => some (decide ((y1 : Int) ≥ 0))

def m_laneref1_Translator_Out (k : Nat) (t : T_laneref1_Translator) (v_at : Int) (v_from : T_api_Spot) (to : T_api_Spot) (al : List Bool) : Option (T_api_Spot × Int × T_laneref1_Translator × (List Bool)) :=
  bi (m_laneref1_Translator_timeFault t v_at) fun y1 => bi (m_laneref1_SpotFault v_from) fun y3 => bi (m_laneref1_SpotFault to) fun y5 => bi (m_cmp_Or_api_Errno [y1, y3, y5]) fun y7 => bif (y7 : Int) != 0 then (some ((⟨(⟨false, 0, 0⟩ : T_api_Addr), 0⟩ : T_api_Spot), y7, t, al)) else (bi (m_laneref1_Translator_lasting k t v_at al) fun y11 => bi (gd (decide ((y11.1.length : Int) ≤ 9223372036854775807)) (rangeG (σ := Int) (fun i13 s14 => bi (getZ y11.1 (i13 : Int)) fun x25 => bi (bi (getZ x25.2 0) fun x30 => bif ((((x30.v_from.Addr.Six : Bool) == v_from.Addr.Six) && (((x30.v_from.Addr.Hi : Int) == v_from.Addr.Hi) && (((x30.v_from.Addr.Lo : Int) == v_from.Addr.Lo) && true))) && (((x30.v_from.Port : Int) == v_from.Port) && true)) then (bi (getZ x25.2 0) fun x33 => bi (m_laneref1_Translator_same t x33.to to) fun y35 => some y35) else (some false)) fun q28 => bif q28 then (bi (getZ x25.2 0) fun x39 => some x39.port) else (some s14)) (y11.1.length : Int) 0)) fun q16 => bi (bif (q16 : Int) == 0 then (bif decide (((y11.1.length : Int) : Int) ≥ 2000) then (bi (some ((⟨(⟨false, 0, 0⟩ : T_api_Addr), 0⟩ : T_api_Spot), 12, t, y11.2)) fun v => some (.inr v)) else (bi (bif decide ((t.last : Int) > 0) then (some (wi (t.last + 1))) else (some t.n.First)) fun q50 => bi (gd (decide (t.n.Ports ≤ 9223372036854775807)) (rangeI (σ := Unit) (ρ := Int) (fun i54 s55 => bi (remZ (wi ((wi (q50 - t.n.First)) + (i54 : Int))) t.n.Ports) fun y68 => bi (m_slices_ContainsFunc_laneref1_sent_laneref1_sent y11.1 (wi (t.n.First + y68))) fun y70 => bif !y70 then (some (.out (wi (t.n.First + y68)))) else (some (.go ()))) t.n.Ports ())) fun q => bi (lsN q fun s55 => q16) fun q62 => bif (q62 : Int) == 0 then (bi (some ((⟨(⟨false, 0, 0⟩ : T_api_Addr), 0⟩ : T_api_Spot), 12, t, y11.2)) fun v => some (.inr v)) else (some (.inl (q62, q62))))) else (some (.inl (t.last, q16))) : Option ((Int × Int) ⊕ (T_api_Spot × Int × T_laneref1_Translator × (List Bool)))) fun q => orI q fun a44 => bi (apd t.out [(⟨v_at, v_from, to, a44.2⟩ : T_laneref1_sent)]) fun y79 => some ((⟨t.n.Outer, a44.2⟩ : T_api_Spot), 0, (⟨t.n, y79, a44.1, v_at⟩ : T_laneref1_Translator), y11.2))

def m_slices_Clone_api_Spot_api_Spot (s : List T_api_Spot) : Option (List T_api_Spot) :=
  bi (apd ([] : List T_api_Spot) s) fun y1 => some y1

def m_laneref1_Translator_In_1 (s : T_laneref1_sent) (x : T_laneref1_Translator) (x2 : T_api_Spot) : Option Bool :=
  some (((x.n.Lets : Int) == 1) || ((((s.to.Addr.Six : Bool) == x2.Addr.Six) && (((s.to.Addr.Hi : Int) == x2.Addr.Hi) && (((s.to.Addr.Lo : Int) == x2.Addr.Lo) && true))) && (((x.n.Lets : Int) == 2) || ((s.to.Port : Int) == x2.Port))))

def m_slices_IndexFunc_laneref1_sent_laneref1_sent_4 (s : List T_laneref1_sent) (f : T_laneref1_Translator) (f2 : T_api_Spot) : Option Int :=
  bi (rangeM (σ := Unit) (ρ := Int) (fun i1 x3 s2 => bi (m_laneref1_Translator_In_1 x3 f f2) fun y12 => bif y12 then (bi (some (i1 : Int)) fun v => some (.out v)) else (some (.go ()))) 0 s ()) fun q => goI q fun a6 => some (-1)

def m_slices_ContainsFunc_laneref1_sent_laneref1_sent_2 (s : List T_laneref1_sent) (f : T_laneref1_Translator) (f2 : T_api_Spot) : Option Bool :=
  bi (m_slices_IndexFunc_laneref1_sent_laneref1_sent_4 s f f2) fun y1 => some (decide ((y1 : Int) ≥ 0))

def m_laneref1_Translator_In (k : Nat) (t : T_laneref1_Translator) (v_at : Int) (v_from : T_api_Spot) (port : Int) (al : List Bool) : Option (T_api_Spot × Bool × Int × T_laneref1_Translator × (List Bool)) :=
  bi (m_laneref1_Translator_timeFault t v_at) fun y1 => bi (m_laneref1_SpotFault v_from) fun y3 => bi (m_cmp_Or_api_Errno [y1, y3]) fun y5 => bif (y5 : Int) != 0 then (some ((⟨(⟨false, 0, 0⟩ : T_api_Addr), 0⟩ : T_api_Spot), false, y5, t, al)) else (bi (m_laneref1_in port 1 65535) fun y9 => bif !y9 then (some ((⟨(⟨false, 0, 0⟩ : T_api_Addr), 0⟩ : T_api_Spot), false, 1, t, al)) else (bi (m_laneref1_Translator_lasting k (⟨t.n, t.out, t.last, v_at⟩ : T_laneref1_Translator) v_at al) fun y13 => bi (gd (decide ((y13.1.length : Int) ≤ 9223372036854775807)) (rangeI (σ := Unit) (ρ := T_api_Spot × Bool × Int × T_laneref1_Translator × (List Bool)) (fun i15 s16 => bi (getZ y13.1 (i15 : Int)) fun x27 => bi (m_slices_ContainsFunc_laneref1_sent_laneref1_sent_2 x27.2 (⟨t.n, t.out, t.last, v_at⟩ : T_laneref1_Translator) v_from) fun y30 => bi (getZ x27.2 0) fun x32 => bif (((x32.port : Int) == port) && y30) then (bi (getZ x27.2 0) fun x35 => bi (some (x35.v_from, true, 0, (⟨t.n, t.out, t.last, v_at⟩ : T_laneref1_Translator), y13.2)) fun v => some (.out v)) else (some (.go ()))) (y13.1.length : Int) ())) fun q => goI q fun a20 => some ((⟨(⟨false, 0, 0⟩ : T_api_Addr), 0⟩ : T_api_Spot), false, 0, (⟨t.n, t.out, t.last, v_at⟩ : T_laneref1_Translator), y13.2)))

def m_laneref1_CanOf (k : Nat) (a : T_api_Nat) (b : T_api_Nat) (rounds : Int) (al : List Bool) : Option (T_api_Punched × (List Bool)) :=
  bi (m_laneref1_NewTranslator a) fun y1 => bi (m_laneref1_NewTranslator b) fun y3 => bi m_laneref1_server fun y5 => bi (m_laneref1_Translator_Out k y1 0 (⟨(⟨false, 0, 167772161⟩ : T_api_Addr), 1000⟩ : T_api_Spot) y5 al) fun y7 => bi m_laneref1_server fun y9 => bi (m_laneref1_Translator_Out k y3 0 (⟨(⟨false, 0, 167772161⟩ : T_api_Addr), 1000⟩ : T_api_Spot) y9 y7.2.2.2) fun y11 => bi (loopM (σ := (List Bool) × (List T_laneref1_sent) × Int × Int × Int × Int × Int × Bool × Int × Int × Int × Int × (List T_laneref1_sent) × Int × Int × Int × Int × Int × Bool × Int × Int × Int × Int × (List T_api_Spot) × (List T_api_Spot) × (Int × Int) × Int) (ρ := (List Bool) × (List T_laneref1_sent) × Int × Int × Int × Int × Int × Bool × Int × Int × Int × Int × (List T_laneref1_sent) × Int × Int × Int × Int × Int × Bool × Int × Int × Int × Int × (List T_api_Spot) × (List T_api_Spot) × (Int × Int)) (fun s14 => bif decide ((s14.2.2.2.2.2.2.2.2.2.2.2.2.2.2.2.2.2.2.2.2.2.2.2.2.2.2 : Int) ≤ rounds) then (bi (m_slices_Clone_api_Spot_api_Spot s14.2.2.2.2.2.2.2.2.2.2.2.2.2.2.2.2.2.2.2.2.2.2.2.2.1) fun y24 => bi (rangeF (σ := (List Bool) × (List T_laneref1_sent) × Int × Int × Int × Int × Int × Bool × Int × Int × Int × Int × (List T_laneref1_sent) × Int × Int × Int × Int × Int × Bool × Int × Int × Int × Int × (List T_api_Spot) × Int) (fun i26 x28 s27 => bi (m_laneref1_Translator_Out k (⟨(⟨s27.2.2.1, s27.2.2.2.1, s27.2.2.2.2.1, s27.2.2.2.2.2.1, s27.2.2.2.2.2.2.1, (⟨s27.2.2.2.2.2.2.2.1, s27.2.2.2.2.2.2.2.2.1, s27.2.2.2.2.2.2.2.2.2.1⟩ : T_api_Addr)⟩ : T_api_Nat), s27.2.1, s27.2.2.2.2.2.2.2.2.2.2.1, s27.2.2.2.2.2.2.2.2.2.2.2.1⟩ : T_laneref1_Translator) s14.2.2.2.2.2.2.2.2.2.2.2.2.2.2.2.2.2.2.2.2.2.2.2.2.2.2 (⟨(⟨false, 0, 167772161⟩ : T_api_Addr), 1000⟩ : T_api_Spot) x28 s27.1) fun y37 => bif (y37.2.1 : Int) != 0 then (some (y37.2.2.2, y37.2.2.1.out, y37.2.2.1.n.Maps, y37.2.2.1.n.Lets, y37.2.2.1.n.Timeout, y37.2.2.1.n.First, y37.2.2.1.n.Ports, y37.2.2.1.n.Outer.Six, y37.2.2.1.n.Outer.Hi, y37.2.2.1.n.Outer.Lo, y37.2.2.1.last, y37.2.2.1.now, s27.2.2.2.2.2.2.2.2.2.2.2.2.1, s27.2.2.2.2.2.2.2.2.2.2.2.2.2.1, s27.2.2.2.2.2.2.2.2.2.2.2.2.2.2.1, s27.2.2.2.2.2.2.2.2.2.2.2.2.2.2.2.1, s27.2.2.2.2.2.2.2.2.2.2.2.2.2.2.2.2.1, s27.2.2.2.2.2.2.2.2.2.2.2.2.2.2.2.2.2.1, s27.2.2.2.2.2.2.2.2.2.2.2.2.2.2.2.2.2.2.1, s27.2.2.2.2.2.2.2.2.2.2.2.2.2.2.2.2.2.2.2.1, s27.2.2.2.2.2.2.2.2.2.2.2.2.2.2.2.2.2.2.2.2.1, s27.2.2.2.2.2.2.2.2.2.2.2.2.2.2.2.2.2.2.2.2.2.1, s27.2.2.2.2.2.2.2.2.2.2.2.2.2.2.2.2.2.2.2.2.2.2.1, s27.2.2.2.2.2.2.2.2.2.2.2.2.2.2.2.2.2.2.2.2.2.2.2.1, s27.2.2.2.2.2.2.2.2.2.2.2.2.2.2.2.2.2.2.2.2.2.2.2.2)) else (bi (m_laneref1_Translator_In k (⟨(⟨s27.2.2.2.2.2.2.2.2.2.2.2.2.2.1, s27.2.2.2.2.2.2.2.2.2.2.2.2.2.2.1, s27.2.2.2.2.2.2.2.2.2.2.2.2.2.2.2.1, s27.2.2.2.2.2.2.2.2.2.2.2.2.2.2.2.2.1, s27.2.2.2.2.2.2.2.2.2.2.2.2.2.2.2.2.2.1, (⟨s27.2.2.2.2.2.2.2.2.2.2.2.2.2.2.2.2.2.2.1, s27.2.2.2.2.2.2.2.2.2.2.2.2.2.2.2.2.2.2.2.1, s27.2.2.2.2.2.2.2.2.2.2.2.2.2.2.2.2.2.2.2.2.1⟩ : T_api_Addr)⟩ : T_api_Nat), s27.2.2.2.2.2.2.2.2.2.2.2.2.1, s27.2.2.2.2.2.2.2.2.2.2.2.2.2.2.2.2.2.2.2.2.2.1, s27.2.2.2.2.2.2.2.2.2.2.2.2.2.2.2.2.2.2.2.2.2.2.1⟩ : T_laneref1_Translator) s14.2.2.2.2.2.2.2.2.2.2.2.2.2.2.2.2.2.2.2.2.2.2.2.2.2.2 y37.1 x28.Port y37.2.2.2) fun y41 => bif !y41.2.1 then (some (y41.2.2.2.2, y37.2.2.1.out, y37.2.2.1.n.Maps, y37.2.2.1.n.Lets, y37.2.2.1.n.Timeout, y37.2.2.1.n.First, y37.2.2.1.n.Ports, y37.2.2.1.n.Outer.Six, y37.2.2.1.n.Outer.Hi, y37.2.2.1.n.Outer.Lo, y37.2.2.1.last, y37.2.2.1.now, y41.2.2.2.1.out, y41.2.2.2.1.n.Maps, y41.2.2.2.1.n.Lets, y41.2.2.2.1.n.Timeout, y41.2.2.2.1.n.First, y41.2.2.2.1.n.Ports, y41.2.2.2.1.n.Outer.Six, y41.2.2.2.1.n.Outer.Hi, y41.2.2.2.1.n.Outer.Lo, y41.2.2.2.1.last, y41.2.2.2.1.now, s27.2.2.2.2.2.2.2.2.2.2.2.2.2.2.2.2.2.2.2.2.2.2.2.1, s27.2.2.2.2.2.2.2.2.2.2.2.2.2.2.2.2.2.2.2.2.2.2.2.2)) else (bi (bif (s27.2.2.2.2.2.2.2.2.2.2.2.2.2.2.2.2.2.2.2.2.2.2.2.2 : Int) == 0 then (some s14.2.2.2.2.2.2.2.2.2.2.2.2.2.2.2.2.2.2.2.2.2.2.2.2.2.2) else (some s27.2.2.2.2.2.2.2.2.2.2.2.2.2.2.2.2.2.2.2.2.2.2.2.2)) fun q45 => bi (m_slices_Contains_api_Spot_api_Spot s27.2.2.2.2.2.2.2.2.2.2.2.2.2.2.2.2.2.2.2.2.2.2.2.1 y37.1) fun y49 => bif !y49 then (bi (apd s27.2.2.2.2.2.2.2.2.2.2.2.2.2.2.2.2.2.2.2.2.2.2.2.1 [y37.1]) fun y52 => some (y41.2.2.2.2, y37.2.2.1.out, y37.2.2.1.n.Maps, y37.2.2.1.n.Lets, y37.2.2.1.n.Timeout, y37.2.2.1.n.First, y37.2.2.1.n.Ports, y37.2.2.1.n.Outer.Six, y37.2.2.1.n.Outer.Hi, y37.2.2.1.n.Outer.Lo, y37.2.2.1.last, y37.2.2.1.now, y41.2.2.2.1.out, y41.2.2.2.1.n.Maps, y41.2.2.2.1.n.Lets, y41.2.2.2.1.n.Timeout, y41.2.2.2.1.n.First, y41.2.2.2.1.n.Ports, y41.2.2.2.1.n.Outer.Six, y41.2.2.2.1.n.Outer.Hi, y41.2.2.2.1.n.Outer.Lo, y41.2.2.2.1.last, y41.2.2.2.1.now, y52, q45)) else (some (y41.2.2.2.2, y37.2.2.1.out, y37.2.2.1.n.Maps, y37.2.2.1.n.Lets, y37.2.2.1.n.Timeout, y37.2.2.1.n.First, y37.2.2.1.n.Ports, y37.2.2.1.n.Outer.Six, y37.2.2.1.n.Outer.Hi, y37.2.2.1.n.Outer.Lo, y37.2.2.1.last, y37.2.2.1.now, y41.2.2.2.1.out, y41.2.2.2.1.n.Maps, y41.2.2.2.1.n.Lets, y41.2.2.2.1.n.Timeout, y41.2.2.2.1.n.First, y41.2.2.2.1.n.Ports, y41.2.2.2.1.n.Outer.Six, y41.2.2.2.1.n.Outer.Hi, y41.2.2.2.1.n.Outer.Lo, y41.2.2.2.1.last, y41.2.2.2.1.now, s27.2.2.2.2.2.2.2.2.2.2.2.2.2.2.2.2.2.2.2.2.2.2.2.1, q45))))) 0 y24 (s14.1, s14.2.1, s14.2.2.1, s14.2.2.2.1, s14.2.2.2.2.1, s14.2.2.2.2.2.1, s14.2.2.2.2.2.2.1, s14.2.2.2.2.2.2.2.1, s14.2.2.2.2.2.2.2.2.1, s14.2.2.2.2.2.2.2.2.2.1, s14.2.2.2.2.2.2.2.2.2.2.1, s14.2.2.2.2.2.2.2.2.2.2.2.1, s14.2.2.2.2.2.2.2.2.2.2.2.2.1, s14.2.2.2.2.2.2.2.2.2.2.2.2.2.1, s14.2.2.2.2.2.2.2.2.2.2.2.2.2.2.1, s14.2.2.2.2.2.2.2.2.2.2.2.2.2.2.2.1, s14.2.2.2.2.2.2.2.2.2.2.2.2.2.2.2.2.1, s14.2.2.2.2.2.2.2.2.2.2.2.2.2.2.2.2.2.1, s14.2.2.2.2.2.2.2.2.2.2.2.2.2.2.2.2.2.2.1, s14.2.2.2.2.2.2.2.2.2.2.2.2.2.2.2.2.2.2.2.1, s14.2.2.2.2.2.2.2.2.2.2.2.2.2.2.2.2.2.2.2.2.1, s14.2.2.2.2.2.2.2.2.2.2.2.2.2.2.2.2.2.2.2.2.2.1, s14.2.2.2.2.2.2.2.2.2.2.2.2.2.2.2.2.2.2.2.2.2.2.1, s14.2.2.2.2.2.2.2.2.2.2.2.2.2.2.2.2.2.2.2.2.2.2.2.1, s14.2.2.2.2.2.2.2.2.2.2.2.2.2.2.2.2.2.2.2.2.2.2.2.2.2.1.2)) fun q29 => bi (m_slices_Clone_api_Spot_api_Spot q29.2.2.2.2.2.2.2.2.2.2.2.2.2.2.2.2.2.2.2.2.2.2.2.1) fun y55 => bi (rangeF (σ := (List Bool) × (List T_laneref1_sent) × Int × Int × Int × Int × Int × Bool × Int × Int × Int × Int × (List T_laneref1_sent) × Int × Int × Int × Int × Int × Bool × Int × Int × Int × Int × (List T_api_Spot) × Int) (fun i57 x59 s58 => bi (m_laneref1_Translator_Out k (⟨(⟨s58.2.2.2.2.2.2.2.2.2.2.2.2.2.1, s58.2.2.2.2.2.2.2.2.2.2.2.2.2.2.1, s58.2.2.2.2.2.2.2.2.2.2.2.2.2.2.2.1, s58.2.2.2.2.2.2.2.2.2.2.2.2.2.2.2.2.1, s58.2.2.2.2.2.2.2.2.2.2.2.2.2.2.2.2.2.1, (⟨s58.2.2.2.2.2.2.2.2.2.2.2.2.2.2.2.2.2.2.1, s58.2.2.2.2.2.2.2.2.2.2.2.2.2.2.2.2.2.2.2.1, s58.2.2.2.2.2.2.2.2.2.2.2.2.2.2.2.2.2.2.2.2.1⟩ : T_api_Addr)⟩ : T_api_Nat), s58.2.2.2.2.2.2.2.2.2.2.2.2.1, s58.2.2.2.2.2.2.2.2.2.2.2.2.2.2.2.2.2.2.2.2.2.1, s58.2.2.2.2.2.2.2.2.2.2.2.2.2.2.2.2.2.2.2.2.2.2.1⟩ : T_laneref1_Translator) s14.2.2.2.2.2.2.2.2.2.2.2.2.2.2.2.2.2.2.2.2.2.2.2.2.2.2 (⟨(⟨false, 0, 167772161⟩ : T_api_Addr), 1000⟩ : T_api_Spot) x59 s58.1) fun y68 => bif (y68.2.1 : Int) != 0 then (some (y68.2.2.2, s58.2.1, s58.2.2.1, s58.2.2.2.1, s58.2.2.2.2.1, s58.2.2.2.2.2.1, s58.2.2.2.2.2.2.1, s58.2.2.2.2.2.2.2.1, s58.2.2.2.2.2.2.2.2.1, s58.2.2.2.2.2.2.2.2.2.1, s58.2.2.2.2.2.2.2.2.2.2.1, s58.2.2.2.2.2.2.2.2.2.2.2.1, y68.2.2.1.out, y68.2.2.1.n.Maps, y68.2.2.1.n.Lets, y68.2.2.1.n.Timeout, y68.2.2.1.n.First, y68.2.2.1.n.Ports, y68.2.2.1.n.Outer.Six, y68.2.2.1.n.Outer.Hi, y68.2.2.1.n.Outer.Lo, y68.2.2.1.last, y68.2.2.1.now, s58.2.2.2.2.2.2.2.2.2.2.2.2.2.2.2.2.2.2.2.2.2.2.2.1, s58.2.2.2.2.2.2.2.2.2.2.2.2.2.2.2.2.2.2.2.2.2.2.2.2)) else (bi (m_laneref1_Translator_In k (⟨(⟨s58.2.2.1, s58.2.2.2.1, s58.2.2.2.2.1, s58.2.2.2.2.2.1, s58.2.2.2.2.2.2.1, (⟨s58.2.2.2.2.2.2.2.1, s58.2.2.2.2.2.2.2.2.1, s58.2.2.2.2.2.2.2.2.2.1⟩ : T_api_Addr)⟩ : T_api_Nat), s58.2.1, s58.2.2.2.2.2.2.2.2.2.2.1, s58.2.2.2.2.2.2.2.2.2.2.2.1⟩ : T_laneref1_Translator) s14.2.2.2.2.2.2.2.2.2.2.2.2.2.2.2.2.2.2.2.2.2.2.2.2.2.2 y68.1 x59.Port y68.2.2.2) fun y72 => bif !y72.2.1 then (some (y72.2.2.2.2, y72.2.2.2.1.out, y72.2.2.2.1.n.Maps, y72.2.2.2.1.n.Lets, y72.2.2.2.1.n.Timeout, y72.2.2.2.1.n.First, y72.2.2.2.1.n.Ports, y72.2.2.2.1.n.Outer.Six, y72.2.2.2.1.n.Outer.Hi, y72.2.2.2.1.n.Outer.Lo, y72.2.2.2.1.last, y72.2.2.2.1.now, y68.2.2.1.out, y68.2.2.1.n.Maps, y68.2.2.1.n.Lets, y68.2.2.1.n.Timeout, y68.2.2.1.n.First, y68.2.2.1.n.Ports, y68.2.2.1.n.Outer.Six, y68.2.2.1.n.Outer.Hi, y68.2.2.1.n.Outer.Lo, y68.2.2.1.last, y68.2.2.1.now, s58.2.2.2.2.2.2.2.2.2.2.2.2.2.2.2.2.2.2.2.2.2.2.2.1, s58.2.2.2.2.2.2.2.2.2.2.2.2.2.2.2.2.2.2.2.2.2.2.2.2)) else (bi (bif (s58.2.2.2.2.2.2.2.2.2.2.2.2.2.2.2.2.2.2.2.2.2.2.2.2 : Int) == 0 then (some s14.2.2.2.2.2.2.2.2.2.2.2.2.2.2.2.2.2.2.2.2.2.2.2.2.2.2) else (some s58.2.2.2.2.2.2.2.2.2.2.2.2.2.2.2.2.2.2.2.2.2.2.2.2)) fun q76 => bi (m_slices_Contains_api_Spot_api_Spot s58.2.2.2.2.2.2.2.2.2.2.2.2.2.2.2.2.2.2.2.2.2.2.2.1 y68.1) fun y80 => bif !y80 then (bi (apd s58.2.2.2.2.2.2.2.2.2.2.2.2.2.2.2.2.2.2.2.2.2.2.2.1 [y68.1]) fun y83 => some (y72.2.2.2.2, y72.2.2.2.1.out, y72.2.2.2.1.n.Maps, y72.2.2.2.1.n.Lets, y72.2.2.2.1.n.Timeout, y72.2.2.2.1.n.First, y72.2.2.2.1.n.Ports, y72.2.2.2.1.n.Outer.Six, y72.2.2.2.1.n.Outer.Hi, y72.2.2.2.1.n.Outer.Lo, y72.2.2.2.1.last, y72.2.2.2.1.now, y68.2.2.1.out, y68.2.2.1.n.Maps, y68.2.2.1.n.Lets, y68.2.2.1.n.Timeout, y68.2.2.1.n.First, y68.2.2.1.n.Ports, y68.2.2.1.n.Outer.Six, y68.2.2.1.n.Outer.Hi, y68.2.2.1.n.Outer.Lo, y68.2.2.1.last, y68.2.2.1.now, y83, q76)) else (some (y72.2.2.2.2, y72.2.2.2.1.out, y72.2.2.2.1.n.Maps, y72.2.2.2.1.n.Lets, y72.2.2.2.1.n.Timeout, y72.2.2.2.1.n.First, y72.2.2.2.1.n.Ports, y72.2.2.2.1.n.Outer.Six, y72.2.2.2.1.n.Outer.Hi, y72.2.2.2.1.n.Outer.Lo, y72.2.2.2.1.last, y72.2.2.2.1.now, y68.2.2.1.out, y68.2.2.1.n.Maps, y68.2.2.1.n.Lets, y68.2.2.1.n.Timeout, y68.2.2.1.n.First, y68.2.2.1.n.Ports, y68.2.2.1.n.Outer.Six, y68.2.2.1.n.Outer.Hi, y68.2.2.1.n.Outer.Lo, y68.2.2.1.last, y68.2.2.1.now, s58.2.2.2.2.2.2.2.2.2.2.2.2.2.2.2.2.2.2.2.2.2.2.2.1, q76))))) 0 y55 (q29.1, q29.2.1, q29.2.2.1, q29.2.2.2.1, q29.2.2.2.2.1, q29.2.2.2.2.2.1, q29.2.2.2.2.2.2.1, q29.2.2.2.2.2.2.2.1, q29.2.2.2.2.2.2.2.2.1, q29.2.2.2.2.2.2.2.2.2.1, q29.2.2.2.2.2.2.2.2.2.2.1, q29.2.2.2.2.2.2.2.2.2.2.2.1, q29.2.2.2.2.2.2.2.2.2.2.2.2.1, q29.2.2.2.2.2.2.2.2.2.2.2.2.2.1, q29.2.2.2.2.2.2.2.2.2.2.2.2.2.2.1, q29.2.2.2.2.2.2.2.2.2.2.2.2.2.2.2.1, q29.2.2.2.2.2.2.2.2.2.2.2.2.2.2.2.2.1, q29.2.2.2.2.2.2.2.2.2.2.2.2.2.2.2.2.2.1, q29.2.2.2.2.2.2.2.2.2.2.2.2.2.2.2.2.2.2.1, q29.2.2.2.2.2.2.2.2.2.2.2.2.2.2.2.2.2.2.2.1, q29.2.2.2.2.2.2.2.2.2.2.2.2.2.2.2.2.2.2.2.2.1, q29.2.2.2.2.2.2.2.2.2.2.2.2.2.2.2.2.2.2.2.2.2.1, q29.2.2.2.2.2.2.2.2.2.2.2.2.2.2.2.2.2.2.2.2.2.2.1, s14.2.2.2.2.2.2.2.2.2.2.2.2.2.2.2.2.2.2.2.2.2.2.2.2.1, s14.2.2.2.2.2.2.2.2.2.2.2.2.2.2.2.2.2.2.2.2.2.2.2.2.2.1.1)) fun q60 => some (.go (q60.1, q60.2.1, q60.2.2.1, q60.2.2.2.1, q60.2.2.2.2.1, q60.2.2.2.2.2.1, q60.2.2.2.2.2.2.1, q60.2.2.2.2.2.2.2.1, q60.2.2.2.2.2.2.2.2.1, q60.2.2.2.2.2.2.2.2.2.1, q60.2.2.2.2.2.2.2.2.2.2.1, q60.2.2.2.2.2.2.2.2.2.2.2.1, q60.2.2.2.2.2.2.2.2.2.2.2.2.1, q60.2.2.2.2.2.2.2.2.2.2.2.2.2.1, q60.2.2.2.2.2.2.2.2.2.2.2.2.2.2.1, q60.2.2.2.2.2.2.2.2.2.2.2.2.2.2.2.1, q60.2.2.2.2.2.2.2.2.2.2.2.2.2.2.2.2.1, q60.2.2.2.2.2.2.2.2.2.2.2.2.2.2.2.2.2.1, q60.2.2.2.2.2.2.2.2.2.2.2.2.2.2.2.2.2.2.1, q60.2.2.2.2.2.2.2.2.2.2.2.2.2.2.2.2.2.2.2.1, q60.2.2.2.2.2.2.2.2.2.2.2.2.2.2.2.2.2.2.2.2.1, q60.2.2.2.2.2.2.2.2.2.2.2.2.2.2.2.2.2.2.2.2.2.1, q60.2.2.2.2.2.2.2.2.2.2.2.2.2.2.2.2.2.2.2.2.2.2.1, q29.2.2.2.2.2.2.2.2.2.2.2.2.2.2.2.2.2.2.2.2.2.2.2.1, q60.2.2.2.2.2.2.2.2.2.2.2.2.2.2.2.2.2.2.2.2.2.2.2.1, (q60.2.2.2.2.2.2.2.2.2.2.2.2.2.2.2.2.2.2.2.2.2.2.2.2, q29.2.2.2.2.2.2.2.2.2.2.2.2.2.2.2.2.2.2.2.2.2.2.2.2), wi (s14.2.2.2.2.2.2.2.2.2.2.2.2.2.2.2.2.2.2.2.2.2.2.2.2.2.2 + 1)))) else (some (.out (s14.1, s14.2.1, s14.2.2.1, s14.2.2.2.1, s14.2.2.2.2.1, s14.2.2.2.2.2.1, s14.2.2.2.2.2.2.1, s14.2.2.2.2.2.2.2.1, s14.2.2.2.2.2.2.2.2.1, s14.2.2.2.2.2.2.2.2.2.1, s14.2.2.2.2.2.2.2.2.2.2.1, s14.2.2.2.2.2.2.2.2.2.2.2.1, s14.2.2.2.2.2.2.2.2.2.2.2.2.1, s14.2.2.2.2.2.2.2.2.2.2.2.2.2.1, s14.2.2.2.2.2.2.2.2.2.2.2.2.2.2.1, s14.2.2.2.2.2.2.2.2.2.2.2.2.2.2.2.1, s14.2.2.2.2.2.2.2.2.2.2.2.2.2.2.2.2.1, s14.2.2.2.2.2.2.2.2.2.2.2.2.2.2.2.2.2.1, s14.2.2.2.2.2.2.2.2.2.2.2.2.2.2.2.2.2.2.1, s14.2.2.2.2.2.2.2.2.2.2.2.2.2.2.2.2.2.2.2.1, s14.2.2.2.2.2.2.2.2.2.2.2.2.2.2.2.2.2.2.2.2.1, s14.2.2.2.2.2.2.2.2.2.2.2.2.2.2.2.2.2.2.2.2.2.1, s14.2.2.2.2.2.2.2.2.2.2.2.2.2.2.2.2.2.2.2.2.2.2.1, s14.2.2.2.2.2.2.2.2.2.2.2.2.2.2.2.2.2.2.2.2.2.2.2.1, s14.2.2.2.2.2.2.2.2.2.2.2.2.2.2.2.2.2.2.2.2.2.2.2.2.1, (s14.2.2.2.2.2.2.2.2.2.2.2.2.2.2.2.2.2.2.2.2.2.2.2.2.2.1.1, s14.2.2.2.2.2.2.2.2.2.2.2.2.2.2.2.2.2.2.2.2.2.2.2.2.2.1.2))))) k (y11.2.2.2, y7.2.2.1.out, y7.2.2.1.n.Maps, y7.2.2.1.n.Lets, y7.2.2.1.n.Timeout, y7.2.2.1.n.First, y7.2.2.1.n.Ports, y7.2.2.1.n.Outer.Six, y7.2.2.1.n.Outer.Hi, y7.2.2.1.n.Outer.Lo, y7.2.2.1.last, y7.2.2.1.now, y11.2.2.1.out, y11.2.2.1.n.Maps, y11.2.2.1.n.Lets, y11.2.2.1.n.Timeout, y11.2.2.1.n.First, y11.2.2.1.n.Ports, y11.2.2.1.n.Outer.Six, y11.2.2.1.n.Outer.Hi, y11.2.2.1.n.Outer.Lo, y11.2.2.1.last, y11.2.2.1.now, [y7.1], [y11.1], (0, 0), 1)) fun q16 => some ((⟨q16.2.2.2.2.2.2.2.2.2.2.2.2.2.2.2.2.2.2.2.2.2.2.2.2.2.1, q16.2.2.2.2.2.2.2.2.2.2.2.2.2.2.2.2.2.2.2.2.2.2.2.2.2.2⟩ : T_api_Punched), q16.1)

def m_lanelaw1_NodesMeet (k : Nat) (l : List Int) (al : List Bool) : Option (Bool × (List Bool)) :=
  bi (m_lanemake_Stream_Nat (⟨l, 0⟩ : T_lanemake_Stream)) fun y1 => bi (m_lanemake_Stream_Nat y1.2) fun y3 => bi (m_lanemake_Stream_Pick y3.2 [0, 1, 2, 3, 5, -1, 51]) fun y5 => bi (m_route_Can k y1.1 y3.1 y5.1 al) fun y7 => bi (m_laneref1_CanFault y1.1 y3.1 y5.1) fun y9 => bif (y9 : Int) != 0 then (bi (bif (((y7.2.1 : Int) == y9) && (((y7.1.A : Int) == 0) && (((y7.1.v_B : Int) == 0) && true))) then (bi (m_lanelaw1_routed k) fun y15 => some y15) else (some false)) fun q12 => some (q12, y7.2.2)) else (bi (bif (y7.2.1 : Int) == 0 then (bi (m_laneref1_CanOf k y1.1 y3.1 y5.1 y7.2.2) fun y22 => bif (((y7.1.A : Int) == y22.1.A) && (((y7.1.v_B : Int) == y22.1.v_B) && true)) then (bi (m_lanelaw1_routed k) fun y25 => some (y22.2, y25)) else (some (y22.2, false))) else (some (y7.2.2, false))) fun q19 => some (q19.2, q19.1))

end
end Go.Gk
