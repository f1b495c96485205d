/-
  Models of functions.
-/
import Derived.Test.YtffmljbfffojlaaGreatDoorMStr3
import Derived.Test.YtffmljbfffojlaaGreatDoorGk56
set_option linter.unusedVariables false
namespace Go.Gk
noncomputable section
structure T_lanemake_Stream where
  L : List Int
  v_at : Int
  deriving DecidableEq
structure T_api_Called where
  Node : Str
  Label : Str
  deriving DecidableEq
structure T_api_Addr where
  Six : Bool
  Hi : Int
  Lo : Int
  deriving DecidableEq
structure T_api_Prefix where
  Addr : T_api_Addr
  Bits : Int
  deriving DecidableEq
structure T_api_Node where
  Key : Str
  User : Str
  Name : Str
  Tags : List Str
  Addrs : List T_api_Addr
  Routes : List T_api_Prefix
  deriving DecidableEq
structure T_api_Record where
  Name : Str
  Kind : Int
  Addr : T_api_Addr
  To : Str
  Words : Str
  Life : Int
  deriving DecidableEq
structure T_api_Zone where
  Root : Str
  Records : List T_api_Record
  deriving DecidableEq


def m_lanemake_Below (x : Int) (n : Int) : Option Int :=
  bif decide ((n : Int) < 1) then (some 0) else (bi (remZ x n) fun y3 => bi (bif decide ((y3 : Int) < 0) then (some (wi (y3 + n))) else (some y3)) fun q5 => some q5)

def m_lanemake_Stream_Next (s : T_lanemake_Stream) (n : Int) : Option (Int × T_lanemake_Stream) :=
  bif ((s.L.length : Int) : Int) == 0 then (bi (m_lanemake_Below (wi ((wi (s.v_at + 1)) * 7919)) n) fun y2 => some (y2, (⟨s.L, wi (s.v_at + 1)⟩ : T_lanemake_Stream))) else (bi (remZ (wi ((wi (s.v_at + 1)) - 1)) (s.L.length : Int)) fun y5 => bi (divZ .i64 (wi ((wi (s.v_at + 1)) - 1)) (s.L.length : Int)) fun y7 => bi (getZ s.L y5) fun x9 => bi (m_lanemake_Below x9 1073741824) fun y11 => bi (m_lanemake_Below (wi (y11 + (wi (y7 * (wi (7919 + y5)))))) n) fun y13 => some (y13, (⟨s.L, wi (s.v_at + 1)⟩ : T_lanemake_Stream)))

def m_lanemake_Stream_Some (s : T_lanemake_Stream) (l : List Str) : Option (Str × T_lanemake_Stream) :=
  bi (m_lanemake_Stream_Next s (l.length : Int)) fun y1 => bi (getZ l y1.1) fun x3 => some (x3, y1.2)

def m_lanemake_Stream_Pick (s : T_lanemake_Stream) (l : List Int) : Option (Int × T_lanemake_Stream) :=
  bi (m_lanemake_Stream_Next s (l.length : Int)) fun y1 => bi (getZ l y1.1) fun x3 => some (x3, y1.2)

def m_lanemake_Stream_Flip (s : T_lanemake_Stream) (n : Int) : Option (Bool × T_lanemake_Stream) :=
  bi (m_lanemake_Stream_Next s n) fun y1 => some ((y1.1 : Int) == 0, y1.2)

def m_lanemake_Stream_Called (s : T_lanemake_Stream) : Option ((List T_api_Called) × T_lanemake_Stream) :=
  bi (rangeF (σ := T_lanemake_Stream × (List T_api_Called)) (fun i1 x3 s2 => bi (m_lanemake_Stream_Flip s2.1 5) fun y12 => bif !y12.1 then (bi (m_lanemake_Stream_Some y12.2 [x3, x3, x3, [98, 111, 120]]) fun y15 => bi (apd s2.2 [(⟨x3, y15.1⟩ : T_api_Called)]) fun y17 => some (y15.2, y17)) else (some (y12.2, s2.2))) 0 [[110, 97], [110, 98], [110, 99], [110, 100], [110, 101]] (s, ([] : List T_api_Called))) fun q4 => bi (m_lanemake_Stream_Flip q4.1 20) fun y20 => bi (bif y20.1 then (bi (m_lanemake_Stream_Some y20.2 [[], [110, 97], [122, 122]]) fun y25 => bi (m_lanemake_Stream_Some y25.2 [[], [45, 97], [97, 46, 98], [120]]) fun y27 => bi (apd q4.2 [(⟨y25.1, y27.1⟩ : T_api_Called)]) fun y29 => some (y27.2, y29)) else (some (y20.2, q4.2))) fun q22 => some (q22.2, q22.1)

def m_lanemake_at (n : Int) : Option T_api_Addr :=
  some (⟨false, 0, IntKind.u64.wrap (1681915904 + (IntKind.u64.wrap (n)))⟩ : T_api_Addr)

def m_lanemake_sixAt (n : Int) : Option T_api_Addr :=
  some (⟨true, 18230571291595767808, IntKind.u64.wrap (n)⟩ : T_api_Addr)

def m_lanemake_Stream_RightNodes (s : T_lanemake_Stream) (most : Int) : Option ((List T_api_Node) × T_lanemake_Stream) :=
  bi (subZ [[110, 97], [110, 98], [110, 99], [110, 100], [110, 101]] 0 (if 5 < most then 5 else most)) fun z1 => bi (rangeF (σ := T_lanemake_Stream × (List T_api_Node)) (fun i3 x5 s4 => bi (m_lanemake_Stream_Flip s4.1 6) fun y14 => bif y14.1 then (some (y14.2, s4.2)) else (bi (m_lanemake_Stream_Some y14.2 [x5, [98, 111, 120], [98, 111, 120], [119, 101, 98]]) fun y18 => bi (m_lanemake_Stream_Some y18.2 [[97, 110, 110], [97, 110, 110], [98, 111, 98], [99, 105, 100], []]) fun y20 => bi (bif (y20.1 : Str) == [] then (bi (m_lanemake_Stream_Next y20.2 3) fun y25 => bi (getZ [[[119, 101, 98]], [[100, 98]], [[100, 98], [119, 101, 98]]] y25.1) fun x27 => some (y25.2, x27)) else (some (y20.2, []))) fun q22 => bi (m_lanemake_Stream_Flip q22.1 8) fun y30 => bi (bif !y30.1 then (bi (m_lanemake_at (wi ((i3 : Int) + 1))) fun y35 => bi (apd ([] : List T_api_Addr) [y35]) fun y37 => some y37) else (some ([] : List T_api_Addr))) fun q32 => bi (m_lanemake_Stream_Flip y30.2 3) fun y40 => bi (bif y40.1 then (bi (m_lanemake_sixAt (wi ((i3 : Int) + 1))) fun y45 => bi (apd q32 [y45]) fun y47 => some y47) else (some q32)) fun q42 => bi (m_lanemake_Stream_Flip y40.2 3) fun y50 => bi (bif y50.1 then (bi (m_lanemake_Stream_Pick y50.2 [8, 16, 24]) fun y55 => bi (apd ([] : List T_api_Prefix) [(⟨(⟨false, 0, 167772160⟩ : T_api_Addr), y55.1⟩ : T_api_Prefix)]) fun y57 => some (y55.2, y57)) else (some (y50.2, ([] : List T_api_Prefix)))) fun q52 => bi (m_lanemake_Stream_Flip q52.1 6) fun y60 => bi (bif y60.1 then (bi (m_lanemake_Stream_Flip y60.2 3) fun y65 => bi (apd q52.2 [(⟨(⟨y65.1, 0, 0⟩ : T_api_Addr), 0⟩ : T_api_Prefix)]) fun y67 => some (y65.2, y67)) else (some (y60.2, q52.2))) fun q62 => bi (apd s4.2 [(⟨x5, y20.1, y18.1, q22.2, q42, q62.2⟩ : T_api_Node)]) fun y70 => some (q62.1, y70))) 0 z1 (s, ([] : List T_api_Node))) fun q6 => some (q6.2, q6.1)

def m_slices_Clone_api_Addr_api_Addr (s : List T_api_Addr) : Option (List T_api_Addr) :=
  bi (apd ([] : List T_api_Addr) s) fun y1 => some y1

def m_lanemake_Stream_Range (s : T_lanemake_Stream) (low : Int) (high : Int) : Option (Int × T_lanemake_Stream) :=
  bif decide ((high : Int) < low) then (some (low, s)) else (bi (m_lanemake_Stream_Next s (wi ((wi (high - low)) + 1))) fun y3 => some (wi (low + y3.1), y3.2))

def m_lanemake_Stream_Addr (s : T_lanemake_Stream) : Option (T_api_Addr × T_lanemake_Stream) :=
  bi (m_lanemake_Stream_Next s 6) fun y1 => bif (y1.1 : Int) == 0 then (bi (m_lanemake_Stream_Next y1.2 5) fun y4 => bi (getZ [0, 18230571291595767808, 2306139568115548160, 9223372036854775808, 18446744073709551615] y4.1) fun x6 => bi (m_lanemake_Stream_Next y4.2 5) fun y8 => bi (getZ [0, 1, 2, 4294967296, 18446744073709551615] y8.1) fun x10 => some ((⟨true, x6, x10⟩ : T_api_Addr), y8.2)) else (bif (y1.1 : Int) == 1 then (bi (m_lanemake_Stream_Next y1.2 5) fun y14 => bi (getZ [0, 1, 4294967295, 2130706433, 3232235521] y14.1) fun x16 => some ((⟨false, 0, x16⟩ : T_api_Addr), y14.2)) else (bif (y1.1 : Int) == 2 then (bi (m_lanemake_Stream_Range y1.2 0 16777216) fun y20 => bi (remZ (IntKind.u64.wrap ((IntKind.u64.wrap (y20.1)) * 251)) 4294967296) fun y22 => some ((⟨false, 0, y22⟩ : T_api_Addr), y20.2)) else (bi (m_lanemake_Stream_Range y1.2 0 20) fun y25 => some ((⟨false, 0, IntKind.u64.wrap (167772160 + (IntKind.u64.wrap (y25.1)))⟩ : T_api_Addr), y25.2))))

def m_lanemake_Stream_Raw (s : T_lanemake_Stream) : Option (T_api_Addr × T_lanemake_Stream) :=
  bi (m_lanemake_Stream_Addr s) fun y1 => bi (m_lanemake_Stream_Flip y1.2 15) fun y3 => bif y3.1 then (bi (m_lanemake_Stream_Next y3.2 2) fun y6 => bi (m_lanemake_Stream_Next y6.2 3) fun y8 => bi (getZ [4294967296, 5, 1099511627776] y8.1) fun x10 => some ((⟨false, IntKind.u64.wrap (y6.1), x10⟩ : T_api_Addr), y8.2)) else (some (y1.1, y3.2))

def m_slices_Clone_api_Prefix_api_Prefix (s : List T_api_Prefix) : Option (List T_api_Prefix) :=
  bi (apd ([] : List T_api_Prefix) s) fun y1 => some y1

def m_laneref2_of (k : Nat) (a : T_api_Addr) : Option (Int × Int × Int × Int × Int × Int × Int × Int × Int) :=
  bi (loopM (σ := Int × Int × Int × Int × Int × Int × Int × Int × Int × Int) (ρ := Int × Int × Int × Int × Int × Int × Int × Int × Int) (fun s2 => bif decide ((s2.2.2.2.2.2.2.2.2.2 : Int) < 4) then (bi (shrZ .u64 a.Lo (wi (16 * s2.2.2.2.2.2.2.2.2.2))) fun y12 => bi (getZ ([s2.1, s2.2.1, s2.2.2.1, s2.2.2.2.1, s2.2.2.2.2.1, s2.2.2.2.2.2.1, s2.2.2.2.2.2.2.1, s2.2.2.2.2.2.2.2.1, s2.2.2.2.2.2.2.2.2.1] : List Int) s2.2.2.2.2.2.2.2.2.2) fun x14 => bi (shrZ .u64 a.Hi (wi (16 * s2.2.2.2.2.2.2.2.2.2))) fun y16 => bi (getZ ([updA s2.2.2.2.2.2.2.2.2.2 0 (wi (bitsV .and .u64 y12 65535)) s2.1, updA s2.2.2.2.2.2.2.2.2.2 1 (wi (bitsV .and .u64 y12 65535)) s2.2.1, updA s2.2.2.2.2.2.2.2.2.2 2 (wi (bitsV .and .u64 y12 65535)) s2.2.2.1, updA s2.2.2.2.2.2.2.2.2.2 3 (wi (bitsV .and .u64 y12 65535)) s2.2.2.2.1, updA s2.2.2.2.2.2.2.2.2.2 4 (wi (bitsV .and .u64 y12 65535)) s2.2.2.2.2.1, updA s2.2.2.2.2.2.2.2.2.2 5 (wi (bitsV .and .u64 y12 65535)) s2.2.2.2.2.2.1, updA s2.2.2.2.2.2.2.2.2.2 6 (wi (bitsV .and .u64 y12 65535)) s2.2.2.2.2.2.2.1, updA s2.2.2.2.2.2.2.2.2.2 7 (wi (bitsV .and .u64 y12 65535)) s2.2.2.2.2.2.2.2.1, updA s2.2.2.2.2.2.2.2.2.2 8 (wi (bitsV .and .u64 y12 65535)) s2.2.2.2.2.2.2.2.2.1] : List Int) (wi (4 + s2.2.2.2.2.2.2.2.2.2))) fun x18 => some (.go (updA (wi (4 + s2.2.2.2.2.2.2.2.2.2)) 0 (wi (bitsV .and .u64 y16 65535)) (updA s2.2.2.2.2.2.2.2.2.2 0 (wi (bitsV .and .u64 y12 65535)) s2.1), updA (wi (4 + s2.2.2.2.2.2.2.2.2.2)) 1 (wi (bitsV .and .u64 y16 65535)) (updA s2.2.2.2.2.2.2.2.2.2 1 (wi (bitsV .and .u64 y12 65535)) s2.2.1), updA (wi (4 + s2.2.2.2.2.2.2.2.2.2)) 2 (wi (bitsV .and .u64 y16 65535)) (updA s2.2.2.2.2.2.2.2.2.2 2 (wi (bitsV .and .u64 y12 65535)) s2.2.2.1), updA (wi (4 + s2.2.2.2.2.2.2.2.2.2)) 3 (wi (bitsV .and .u64 y16 65535)) (updA s2.2.2.2.2.2.2.2.2.2 3 (wi (bitsV .and .u64 y12 65535)) s2.2.2.2.1), updA (wi (4 + s2.2.2.2.2.2.2.2.2.2)) 4 (wi (bitsV .and .u64 y16 65535)) (updA s2.2.2.2.2.2.2.2.2.2 4 (wi (bitsV .and .u64 y12 65535)) s2.2.2.2.2.1), updA (wi (4 + s2.2.2.2.2.2.2.2.2.2)) 5 (wi (bitsV .and .u64 y16 65535)) (updA s2.2.2.2.2.2.2.2.2.2 5 (wi (bitsV .and .u64 y12 65535)) s2.2.2.2.2.2.1), updA (wi (4 + s2.2.2.2.2.2.2.2.2.2)) 6 (wi (bitsV .and .u64 y16 65535)) (updA s2.2.2.2.2.2.2.2.2.2 6 (wi (bitsV .and .u64 y12 65535)) s2.2.2.2.2.2.2.1), updA (wi (4 + s2.2.2.2.2.2.2.2.2.2)) 7 (wi (bitsV .and .u64 y16 65535)) (updA s2.2.2.2.2.2.2.2.2.2 7 (wi (bitsV .and .u64 y12 65535)) s2.2.2.2.2.2.2.2.1), updA (wi (4 + s2.2.2.2.2.2.2.2.2.2)) 8 (wi (bitsV .and .u64 y16 65535)) (updA s2.2.2.2.2.2.2.2.2.2 8 (wi (bitsV .and .u64 y12 65535)) s2.2.2.2.2.2.2.2.2.1), wi (s2.2.2.2.2.2.2.2.2.2 + 1)))) else (some (.out (s2.1, s2.2.1, s2.2.2.1, s2.2.2.2.1, s2.2.2.2.2.1, s2.2.2.2.2.2.1, s2.2.2.2.2.2.2.1, s2.2.2.2.2.2.2.2.1, s2.2.2.2.2.2.2.2.2.1)))) k (0, 0, 0, 0, 0, 0, 0, 0, 0, 0)) fun q4 => bi (bif a.Six then (some 1) else (some q4.2.2.2.2.2.2.2.2)) fun q21 => some (q4.1, q4.2.1, q4.2.2.1, q4.2.2.2.1, q4.2.2.2.2.1, q4.2.2.2.2.2.1, q4.2.2.2.2.2.2.1, q4.2.2.2.2.2.2.2.1, q21)

def m_laneref2_length (a : T_api_Addr) : Option Int :=
  bif a.Six then (some 128) else (some 32)

def m_laneref2_firstOf (k : Nat) (a : T_api_Addr) (bits : Int) : Option (Int × Int × Int × Int × Int × Int × Int × Int × Int) :=
  bi (m_laneref2_of k a) fun y1 => bi (m_laneref2_length a) fun y3 => bi (gd (decide ((wi (y3 - bits)) ≤ 9223372036854775807)) (rangeG (σ := Int × Int × Int × Int × Int × Int × Int × Int × Int) (fun i5 s6 => bi (divZ .i64 (i5 : Int) 16) fun y17 => bi (getZ ([s6.1, s6.2.1, s6.2.2.1, s6.2.2.2.1, s6.2.2.2.2.1, s6.2.2.2.2.2.1, s6.2.2.2.2.2.2.1, s6.2.2.2.2.2.2.2.1, s6.2.2.2.2.2.2.2.2] : List Int) y17) fun x19 => bi (remZ (i5 : Int) 16) fun y21 => bi (shlZ .i64 1 y21) fun y23 => bi (getZ ([s6.1, s6.2.1, s6.2.2.1, s6.2.2.2.1, s6.2.2.2.2.1, s6.2.2.2.2.2.1, s6.2.2.2.2.2.2.1, s6.2.2.2.2.2.2.2.1, s6.2.2.2.2.2.2.2.2] : List Int) y17) fun x25 => some (updA y17 0 (bitsV .andNot .i64 x19 y23) s6.1, updA y17 1 (bitsV .andNot .i64 x19 y23) s6.2.1, updA y17 2 (bitsV .andNot .i64 x19 y23) s6.2.2.1, updA y17 3 (bitsV .andNot .i64 x19 y23) s6.2.2.2.1, updA y17 4 (bitsV .andNot .i64 x19 y23) s6.2.2.2.2.1, updA y17 5 (bitsV .andNot .i64 x19 y23) s6.2.2.2.2.2.1, updA y17 6 (bitsV .andNot .i64 x19 y23) s6.2.2.2.2.2.2.1, updA y17 7 (bitsV .andNot .i64 x19 y23) s6.2.2.2.2.2.2.2.1, updA y17 8 (bitsV .andNot .i64 x19 y23) s6.2.2.2.2.2.2.2.2)) (wi (y3 - bits)) (y1.1, y1.2.1, y1.2.2.1, y1.2.2.2.1, y1.2.2.2.2.1, y1.2.2.2.2.2.1, y1.2.2.2.2.2.2.1, y1.2.2.2.2.2.2.2.1, y1.2.2.2.2.2.2.2.2))) fun q8 => some (q8.1, q8.2.1, q8.2.2.1, q8.2.2.2.1, q8.2.2.2.2.1, q8.2.2.2.2.2.1, q8.2.2.2.2.2.2.1, q8.2.2.2.2.2.2.2.1, q8.2.2.2.2.2.2.2.2)

def m_laneref2_wide_addr (k : Nat) (w : (Int × Int × Int × Int × Int × Int × Int × Int × Int)) : Option T_api_Addr :=
  bi (loopM (σ := T_api_Addr × Int) (ρ := T_api_Addr) (fun s2 => bif decide ((s2.2 : Int) < 4) then (bi (getZ ([w.1, w.2.1, w.2.2.1, w.2.2.2.1, w.2.2.2.2.1, w.2.2.2.2.2.1, w.2.2.2.2.2.2.1, w.2.2.2.2.2.2.2.1, w.2.2.2.2.2.2.2.2] : List Int) s2.2) fun x12 => bi (shlZ .u64 (IntKind.u64.wrap (x12)) (wi (16 * s2.2))) fun y14 => bi (getZ ([w.1, w.2.1, w.2.2.1, w.2.2.2.1, w.2.2.2.2.1, w.2.2.2.2.2.1, w.2.2.2.2.2.2.1, w.2.2.2.2.2.2.2.1, w.2.2.2.2.2.2.2.2] : List Int) (wi (4 + s2.2))) fun x16 => bi (shlZ .u64 (IntKind.u64.wrap (x16)) (wi (16 * s2.2))) fun y18 => some (.go ((⟨s2.1.Six, bitsV .or .u64 s2.1.Hi y18, bitsV .or .u64 s2.1.Lo y14⟩ : T_api_Addr), wi (s2.2 + 1)))) else (some (.out s2.1))) k ((⟨false, 0, 0⟩ : T_api_Addr), 0)) fun q4 => some (⟨decide ((w.2.2.2.2.2.2.2.2 : Int) > 0), q4.Hi, q4.Lo⟩ : T_api_Addr)

def m_laneref2_MaskOf (k : Nat) (a : T_api_Addr) (bits : Int) : Option T_api_Prefix :=
  bi (m_laneref2_firstOf k a bits) fun y1 => bi (m_laneref2_wide_addr k y1) fun y3 => some (⟨y3, bits⟩ : T_api_Prefix)

def m_lanemake_Stream_RightPrefix (k : Nat) (s : T_lanemake_Stream) : Option (T_api_Prefix × T_lanemake_Stream) :=
  bi (m_lanemake_Stream_Addr s) fun y1 => bi (m_lanemake_Stream_Pick y1.2 [0, 8, 24, 27, 28, 29, 30, 31, 32]) fun y3 => bi (bif y1.1.Six then (bi (m_lanemake_Stream_Pick y3.2 [0, 8, 32, 48, 63, 64, 65, 96, 127, 128]) fun y8 => some (y8.2, y8.1)) else (some (y3.2, y3.1))) fun q5 => bi (m_laneref2_MaskOf k y1.1 q5.2) fun y11 => some (y11, q5.1)

def m_lanemake_Stream_Odd (s : T_lanemake_Stream) (low : Int) (high : Int) : Option (Int × T_lanemake_Stream) :=
  bi (m_lanemake_Stream_Flip s 12) fun y1 => bif y1.1 then (bi (m_lanemake_Stream_Pick y1.2 [wi (low - 1), wi (high + 1), low, high, -1099511627776, 1099511627776]) fun y4 => some (y4.1, y4.2)) else (bi (m_lanemake_Stream_Range y1.2 low high) fun y7 => some (y7.1, y7.2))

def m_lanemake_Stream_Prefix (k : Nat) (s : T_lanemake_Stream) : Option (T_api_Prefix × T_lanemake_Stream) :=
  bi (m_lanemake_Stream_RightPrefix k s) fun y1 => bi (m_lanemake_Stream_Flip y1.2 15) fun y3 => bi (bif y3.1 then (bi (m_lanemake_Stream_Raw y3.2) fun y8 => bi (m_lanemake_Stream_Odd y8.2 0 33) fun y10 => some (y10.2, (⟨y8.1, y10.1⟩ : T_api_Prefix))) else (some (y3.2, y1.1))) fun q5 => some (q5.2, q5.1)

def m_lanemake_Stream_Nodes (k : Nat) (s : T_lanemake_Stream) (most : Int) : Option ((List T_api_Node) × T_lanemake_Stream) :=
  bi (m_lanemake_Stream_RightNodes s most) fun y1 => bi (bif decide (((y1.1.length : Int) : Int) > 0) then (bi (m_lanemake_Stream_Flip y1.2 12) fun y6 => some (y6.2, y6.1)) else (some (y1.2, false))) fun q3 => bi (bif q3.2 then (bi (m_lanemake_Stream_Next q3.1 (y1.1.length : Int)) fun y12 => bi (getZ y1.1 y12.1) fun x14 => bi (m_lanemake_Stream_Next y12.2 6) fun y17 => bif (y17.1 : Int) == 0 then (bi (m_lanemake_Stream_Some y17.2 [[], [65], [110, 97]]) fun y20 => some (y20.2, y1.1.set y12.1.toNat (⟨y20.1, x14.User, x14.Name, x14.Tags, x14.Addrs, x14.Routes⟩ : T_api_Node))) else (bif (y17.1 : Int) == 1 then (bi (m_lanemake_Stream_Some y17.2 [[], [65]]) fun y24 => some (y24.2, y1.1.set y12.1.toNat (⟨x14.Key, x14.User, y24.1, x14.Tags, x14.Addrs, x14.Routes⟩ : T_api_Node))) else (bif (y17.1 : Int) == 2 then (bi (m_lanemake_Stream_Some y17.2 [[], [65], [97, 110, 110]]) fun y28 => some (y28.2, y1.1.set y12.1.toNat (⟨x14.Key, y28.1, x14.Name, x14.Tags, x14.Addrs, x14.Routes⟩ : T_api_Node))) else (bif (y17.1 : Int) == 3 then (bi (m_lanemake_Stream_Next y17.2 4) fun y32 => bi (getZ [[], [[119, 101, 98], [100, 98]], [[]], [[97]]] y32.1) fun x34 => some (y32.2, y1.1.set y12.1.toNat (⟨x14.Key, x14.User, x14.Name, x34, x14.Addrs, x14.Routes⟩ : T_api_Node))) else (bif (y17.1 : Int) == 4 then (bi (m_slices_Clone_api_Addr_api_Addr x14.Addrs) fun y38 => bi (m_lanemake_Stream_Raw y17.2) fun y40 => bi (m_lanemake_at 1) fun y42 => bi (apd y38 [y40.1, y42]) fun y44 => some (y40.2, y1.1.set y12.1.toNat (⟨x14.Key, x14.User, x14.Name, x14.Tags, y44, x14.Routes⟩ : T_api_Node))) else (bi (m_slices_Clone_api_Prefix_api_Prefix x14.Routes) fun y47 => bi (m_lanemake_Stream_Prefix k y17.2) fun y49 => bi (apd y47 [y49.1]) fun y51 => some (y49.2, y1.1.set y12.1.toNat (⟨x14.Key, x14.User, x14.Name, x14.Tags, x14.Addrs, y51⟩ : T_api_Node)))))))) else (some (q3.1, y1.1))) fun q9 => some (q9.2, q9.1)

def m_name_isLetter (c : Int) : Option Bool :=
  some (((decide ((c : Int) ≥ 97)) && (decide ((c : Int) ≤ 122))) || ((decide ((c : Int) ≥ 48)) && (decide ((c : Int) ≤ 57))))

def m_name_isLabel : Nat → Str → Option Bool
  | 0, _ => none
  | k + 1, s => bi (m_strings_CutPrefix s [95]) fun y1 => bif y1.2 then (bi (m_strings_HasPrefix y1.1 [95]) fun y4 => bi (bif !y4 then (bi (m_name_isLabel k y1.1) fun y9 => some y9) else (some false)) fun q6 => some (q6 && (decide (((s.length : Int) : Int) ≤ 63)))) else (bi (gd (decide ((s.length : Int) ≤ 9223372036854775807)) (rangeI (σ := Unit) (ρ := Bool) (fun i13 s14 => bi (getZ s (i13 : Int)) fun c25 => bi (m_name_isLetter (c25.toNat : Int)) fun y27 => bi (bif !y27 then (bi (getZ s (i13 : Int)) fun c32 => some (((c32.toNat : Int) : Int) != 45)) else (some false)) fun q29 => bif q29 then (bi (some false) fun v => some (.out v)) else (some (.go ()))) (s.length : Int) ())) fun q => goI q fun a18 => bi (bif ((!((s : Str) == [])) && (decide (((s.length : Int) : Int) ≤ 63))) then (bi (getZ s 0) fun c42 => some (((c42.toNat : Int) : Int) != 45)) else (some false)) fun q39 => bi (bif q39 then (bi (getZ s (wi ((s.length : Int) - 1))) fun c48 => some (((c48.toNat : Int) : Int) != 45)) else (some false)) fun q45 => some q45)

def m_name_CheckDomain (k : Nat) (s : Str) : Option Int :=
  bif decide (((s.length : Int) : Int) > 253) then (some 2) else (bi (m_strings_Split s [46]) fun y3 => bi (rangeM (σ := Unit) (ρ := Int) (fun i5 x7 s6 => bi (m_name_isLabel k x7) fun y16 => bif !y16 then (bi (some 5) fun v => some (.out v)) else (some (.go ()))) 0 y3 ()) fun q => goI q fun a10 => some 0)

def m_kit_Outside (n : Int) (low : Int) (high : Int) : Option Bool :=
  some ((decide ((n : Int) < low)) || (decide ((n : Int) > high)))

def m_kit_IsKey (k : Nat) (s : Str) : Option Bool :=
  bi (loopM (σ := Int) (ρ := Unit ⊕ Bool) (fun s2 => bif decide ((s2 : Int) < (s.length : Int)) then (bi (getZ s s2) fun c12 => bif !(((decide (((c12.toNat : Int) : Int) ≥ 97)) && (decide (((c12.toNat : Int) : Int) ≤ 122))) || ((decide ((s2 : Int) > 0)) && ((((decide (((c12.toNat : Int) : Int) ≥ 48)) && (decide (((c12.toNat : Int) : Int) ≤ 57))) || (((c12.toNat : Int) : Int) == 45)) || (((c12.toNat : Int) : Int) == 95)))) then (bi (some false) fun v => some (.out (.inr v))) else (some (.go (wi (s2 + 1))))) else (some (.out (.inl ())))) k 0) fun q => orI q fun a6 => some ((!((s : Str) == [])) && (decide (((s.length : Int) : Int) ≤ 40)))

def m_name_calledFault (k : Nat) (l : List T_api_Called) : Option Int :=
  bif decide (((l.length : Int) : Int) > 500) then (some 2) else (bi (rangeM (σ := Unit) (ρ := Int) (fun i3 x5 s4 => bi (m_kit_IsKey k x5.Node) fun y14 => bi (bif !y14 then (some true) else (bi (m_name_isLabel k x5.Label) fun y20 => some (!y20))) fun q16 => bif q16 then (bi (some 5) fun v => some (.out v)) else (bi (bif decide (((i3 : Int) : Int) > 0) then (bi (getZ l (wi ((i3 : Int) - 1))) fun x29 => some (Op.bytesLess x5.Node x29.Node || (x5.Node : Str) == x29.Node)) else (some false)) fun q26 => bif q26 then (bi (some 7) fun v => some (.out v)) else (some (.go ())))) 0 l ()) fun q => goI q fun a8 => some 0)

def m_addr_CheckAddr (a : T_api_Addr) : Option Int :=
  bif ((!a.Six) && (((a.Hi : Int) != 0) || (decide ((a.Lo : Int) ≥ 4294967296)))) then (some 3) else (some 0)

def m_name_nodesFault (k : Nat) (l : List T_api_Node) : Option Int :=
  bif decide (((l.length : Int) : Int) > 500) then (some 2) else (bi (rangeM (σ := Unit) (ρ := Int) (fun i3 x5 s4 => bi (m_kit_IsKey k x5.Key) fun y14 => bif !y14 then (bi (some 5) fun v => some (.out v)) else (bi (bif decide (((i3 : Int) : Int) > 0) then (bi (getZ l (wi ((i3 : Int) - 1))) fun x23 => some (Op.bytesLess x5.Key x23.Key || (x5.Key : Str) == x23.Key)) else (some false)) fun q20 => bif q20 then (bi (some 7) fun v => some (.out v)) else (bif decide (((x5.Addrs.length : Int) : Int) > 4) then (bi (some 2) fun v => some (.out v)) else (bi (rangeM (σ := Unit) (ρ := LS Unit Int) (fun i34 x36 s35 => bi (m_addr_CheckAddr x36) fun y45 => bif (y45 : Int) != 0 then (bi (bi (some y45) fun v => some (.out v)) fun v => some (.out v)) else (some (.go ()))) 0 x5.Addrs ()) fun q => goI q fun a39 => some (.go ()))))) 0 l ()) fun q => goI q fun a8 => some 0)

def m_name_back (k : Nat) (a : T_api_Addr) : Option Str :=
  bif !a.Six then (bi (loopM (σ := (List Str) × Int) (ρ := List Str) (fun s3 => bif decide ((s3.2 : Int) < 4) then (bi (shrZ .u64 a.Lo (wi (8 * s3.2))) fun y13 => bi (m_strconv_FormatUint (bitsV .and .u64 y13 255) 10) fun y15 => bi (apd s3.1 [y15]) fun y17 => some (.go (y17, wi (s3.2 + 1)))) else (some (.out s3.1))) k (([] : List Str), 0)) fun q5 => bi (m_strings_Join q5 [46]) fun y20 => bi (catZ y20 [46, 105, 110, 45, 97, 100, 100, 114, 46, 97, 114, 112, 97]) fun y22 => some y22) else (bi (loopM (σ := (List Str) × Int) (ρ := List Str) (fun s26 => bif decide ((s26.2 : Int) < 2) then (bi (getZ ([a.Lo, a.Hi] : List Int) s26.2) fun x36 => bi (loopM (σ := (List Str) × Int) (ρ := List Str) (fun s39 => bif decide ((s39.2 : Int) < 16) then (bi (shrZ .u64 x36 (wi (4 * s39.2))) fun y49 => bi (m_strconv_FormatUint (bitsV .and .u64 y49 15) 16) fun y51 => bi (apd s39.1 [y51]) fun y53 => some (.go (y53, wi (s39.2 + 1)))) else (some (.out s39.1))) k (s26.1, 0)) fun q41 => some (.go (q41, wi (s26.2 + 1)))) else (some (.out s26.1))) k (([] : List Str), 0)) fun q28 => bi (m_strings_Join q28 [46]) fun y57 => bi (catZ y57 [46, 105, 112, 54, 46, 97, 114, 112, 97]) fun y59 => some y59)

def m_name_under (name : Str) (zone : Str) : Option Bool :=
  bi (bif (name : Str) == zone then (some true) else (bi (catZ [46] zone) fun y5 => bi (m_strings_HasSuffix name y5) fun y7 => some y7)) fun q1 => some q1

def m_cmp_isNaN_int (x : Int) : Option Bool :=
  some ((x : Int) != x)

def m_cmp_Compare_int (x : Int) (y : Int) : Option Int :=
  bi (m_cmp_isNaN_int x) fun y1 => bi (m_cmp_isNaN_int y) fun y3 => bif y1 then (bif y3 then (some 0) else (some (-1))) else (bif y3 then (some 1) else (bif decide ((x : Int) < y) then (some (-1)) else (bif decide ((x : Int) > y) then (some 1) else (some 0))))

def m_cmp_isNaN_uint64 (x : Int) : Option Bool :=
  some ((x : Int) != x)

def m_cmp_Compare_uint64 (x : Int) (y : Int) : Option Int :=
  bi (m_cmp_isNaN_uint64 x) fun y1 => bi (m_cmp_isNaN_uint64 y) fun y3 => bif y1 then (bif y3 then (some 0) else (some (-1))) else (bif y3 then (some 1) else (bif decide ((x : Int) < y) then (some (-1)) else (bif decide ((x : Int) > y) then (some 1) else (some 0))))

def m_cmp_Or_int (vals : List Int) : Option Int :=
  bi (rangeM (σ := Unit) (ρ := Int) (fun i1 x3 s2 => bif (x3 : Int) != 0 then (bi (some x3) fun v => some (.out v)) else (some (.go ()))) 0 vals ()) fun q => goI q fun a6 => some 0

def m_name_compareRecords (a : T_api_Record) (b : T_api_Record) : Option Int :=
  bi (m_strings_Compare a.Name b.Name) fun y1 => bi (m_cmp_Compare_int a.Kind b.Kind) fun y3 => bi (m_cmp_Compare_uint64 a.Addr.Hi b.Addr.Hi) fun y5 => bi (m_cmp_Compare_uint64 a.Addr.Lo b.Addr.Lo) fun y7 => bi (m_strings_Compare a.To b.To) fun y9 => bi (m_strings_Compare a.Words b.Words) fun y11 => bi (m_cmp_Or_int [y1, y3, y5, y7, y9, y11]) fun y13 => some y13

def m_slices_SortFunc_api_Record_api_Record (x : List T_api_Record) : Option (List T_api_Record) :=
  sortF (fun a b => m_name_compareRecords a b) x

def m_name_bare (name : Str) : Option Str :=
  bi (m_strings_TrimPrefix name [42, 46]) fun y1 => some y1

def m_name_isKind (kind : Int) : Option Bool :=
  bi (bif (kind : Int) == 1 then (some ((kind : Int) == 1)) else (bif (kind : Int) == 5 then (some ((kind : Int) == 5)) else (bif (kind : Int) == 12 then (some ((kind : Int) == 12)) else (bif (kind : Int) == 16 then (some ((kind : Int) == 16)) else (some ((kind : Int) == 28)))))) fun q1 => bif q1 then (some true) else (some false)

def m_name_hasAddr (kind : Int) : Option Bool :=
  some (((kind : Int) == 1) || ((kind : Int) == 28))

def m_name_hasName (kind : Int) : Option Bool :=
  some (((kind : Int) == 5) || ((kind : Int) == 12))

def m_kit_IsPlain (k : Nat) (s : Str) : Option Bool :=
  bi (loopM (σ := Int) (ρ := Unit ⊕ Bool) (fun s2 => bif decide ((s2 : Int) < (s.length : Int)) then (bi (getZ s s2) fun c12 => bi (bif decide (((c12.toNat : Int) : Int) < 32) then (some true) else (bi (getZ s s2) fun c18 => some (((c18.toNat : Int) : Int) == 127))) fun q14 => bif q14 then (bi (some false) fun v => some (.out (.inr v))) else (some (.go (wi (s2 + 1))))) else (some (.out (.inl ())))) k 0) fun q => orI q fun a6 => bi (m_utf8_ValidString s) fun y25 => bi (bif y25 then (bi (m_strings_Trim s [32]) fun y30 => some ((y30 : Str) == s)) else (some false)) fun q27 => bi (bif q27 then (bi (m_strings_Contains s [32, 32]) fun y36 => some (!y36)) else (some false)) fun q33 => some q33

def m_name_recordFault (k : Nat) (v_r : T_api_Record) : Option Int :=
  bi (m_name_bare v_r.Name) fun y1 => bi (m_name_CheckDomain k y1) fun y3 => bif (((y3 : Int) != 0) || (decide (((v_r.Name.length : Int) : Int) > 253))) then (some 5) else (bi (m_name_isKind v_r.Kind) fun y7 => bif !y7 then (some 4) else (bi (m_name_hasAddr v_r.Kind) fun y11 => bi (bif y11 then (bi (bif !((v_r.Addr.Six : Bool) == ((v_r.Kind : Int) == 28)) then (some true) else (bi (m_addr_CheckAddr v_r.Addr) fun y20 => some ((y20 : Int) != 0))) fun q16 => some q16) else (some false)) fun q13 => bif q13 then (some 3) else (bi (m_name_hasAddr v_r.Kind) fun y25 => bif ((!y25) && (!(((v_r.Addr.Six : Bool) == false) && (((v_r.Addr.Hi : Int) == 0) && (((v_r.Addr.Lo : Int) == 0) && true))))) then (some 3) else (bi (m_name_hasName v_r.Kind) fun y29 => bi (bif y29 then (bi (m_name_CheckDomain k v_r.To) fun y34 => some ((y34 : Int) != 0)) else (some false)) fun q31 => bif q31 then (some 5) else (bi (m_name_hasName v_r.Kind) fun y39 => bif ((!y39) && (!((v_r.To : Str) == []))) then (some 3) else (bi (bif (v_r.Kind : Int) == 16 then (bi (m_kit_IsPlain k v_r.Words) fun y46 => some ((!y46) || (decide (((v_r.Words.length : Int) : Int) > 200)))) else (some false)) fun q43 => bif (q43 || (((v_r.Kind : Int) != 16) && (!((v_r.Words : Str) == [])))) then (some 3) else (bi (m_kit_Outside v_r.Life 0 1000000) fun y51 => bif y51 then (some 1) else (some 0))))))))

def m_name_CheckZone (k : Nat) (z : T_api_Zone) : Option Int :=
  bi (m_name_CheckDomain k z.Root) fun y1 => bif (y1 : Int) != 0 then (some y1) else (bif decide (((z.Records.length : Int) : Int) > 2000) then (some 2) else (bi (rangeM (σ := Unit) (ρ := Int) (fun i7 x9 s8 => bi (m_name_recordFault k x9) fun y18 => bif (y18 : Int) != 0 then (bi (some y18) fun v => some (.out v)) else (bi (m_name_bare x9.Name) fun y24 => bi (m_name_under y24 z.Root) fun y26 => bif !y26 then (bi (some 16) fun v => some (.out v)) else (bif ((i7 : Int) : Int) == 0 then (some (.go ())) else (bi (getZ z.Records (wi ((i7 : Int) - 1))) fun x34 => bi (m_name_compareRecords x34 x9) fun y36 => bif (y36 : Int) == 0 then (bi (some 6) fun v => some (.out v)) else (bif decide ((y36 : Int) > 0) then (bi (some 7) fun v => some (.out v)) else (bif (((x34.Name : Str) == x9.Name) && (((x34.Kind : Int) == 5) || ((x9.Kind : Int) == 5))) then (bi (some 13) fun v => some (.out v)) else (some (.go ())))))))) 0 z.Records ()) fun q => goI q fun a12 => some 0))

def m_name_ZoneOf (k : Nat) (root : Str) (life : Int) (l : List T_api_Called) (nodes : List T_api_Node) : Option (T_api_Zone × Int) :=
  bi (m_name_CheckDomain k root) fun y1 => bif (y1 : Int) != 0 then (some ((⟨[], ([] : List T_api_Record)⟩ : T_api_Zone), y1)) else (bi (m_kit_Outside life 0 1000000) fun y5 => bif y5 then (some ((⟨[], ([] : List T_api_Record)⟩ : T_api_Zone), 1)) else (bi (m_name_calledFault k l) fun y9 => bif (y9 : Int) != 0 then (some ((⟨[], ([] : List T_api_Record)⟩ : T_api_Zone), y9)) else (bi (m_name_nodesFault k nodes) fun y13 => bif (y13 : Int) != 0 then (some ((⟨[], ([] : List T_api_Record)⟩ : T_api_Zone), y13)) else (bi (rangeF (σ := List (Str × Str)) (fun i17 x19 s18 => some (mSet s18 x19.Node x19.Label)) 0 l ([] : List (Str × Str))) fun q20 => bi (rangeF (σ := List T_api_Record) (fun i28 x30 s29 => bif !((mGet q20 x30.Key).isSome) then (some s29) else (bi (catZ ((mGet q20 x30.Key).getD []) [46]) fun y41 => bi (catZ y41 root) fun y43 => bi (rangeF (σ := List T_api_Record) (fun i45 x47 s46 => bi (bif x47.Six then (some 28) else (some 1)) fun q56 => bi (apd s46 [(⟨y43, q56, x47, [], [], life⟩ : T_api_Record)]) fun y60 => bi (m_name_back k x47) fun y62 => bi (m_name_under y62 root) fun y64 => bif y64 then (bi (apd y60 [(⟨y62, 12, (⟨false, 0, 0⟩ : T_api_Addr), y43, [], life⟩ : T_api_Record)]) fun y67 => some y67) else (some y60)) 0 x30.Addrs s29) fun q48 => some q48)) 0 nodes ([] : List T_api_Record)) fun q31 => bi (m_slices_SortFunc_api_Record_api_Record q31) fun y70 => gd (decide (y70.length = q31.length)) (bi (m_name_CheckZone k (⟨root, y70⟩ : T_api_Zone)) fun y74 => bif (y74 : Int) != 0 then (some ((⟨[], ([] : List T_api_Record)⟩ : T_api_Zone), y74)) else (some ((⟨root, y70⟩ : T_api_Zone), 0)))))))

def m_laneref1_LabelForm (s : Str) : Option Bool :=
  bif decide (((s.length : Int) : Int) > 63) then (some false) else (bi (m_strings_TrimPrefix s [95]) fun y3 => bi (bif !((y3 : Str) == []) then (bi (m_strings_Trim y3 [97, 98, 99, 100, 101, 102, 103, 104, 105, 106, 107, 108, 109, 110, 111, 112, 113, 114, 115, 116, 117, 118, 119, 120, 121, 122, 48, 49, 50, 51, 52, 53, 54, 55, 56, 57, 45]) fun y8 => some ((y8 : Str) == [])) else (some false)) fun q5 => bi (bif q5 then (bi (getZ y3 0) fun c14 => some (((c14.toNat : Int) : Int) != 45)) else (some false)) fun q11 => bi (bif q11 then (bi (getZ y3 (wi ((y3.length : Int) - 1))) fun c20 => some (((c20.toNat : Int) : Int) != 45)) else (some false)) fun q17 => some q17)

def m_laneref1_DomainFault (s : Str) : Option Int :=
  bif decide (((s.length : Int) : Int) > 253) then (some 2) else (bi (m_strings_Split s [46]) fun y3 => bi (rangeM (σ := Unit) (ρ := Int) (fun i5 x7 s6 => bi (m_laneref1_LabelForm x7) fun y16 => bif !y16 then (bi (some 5) fun v => some (.out v)) else (some (.go ()))) 0 y3 ()) fun q => goI q fun a10 => some 0)

def m_laneref1_in (n : Int) (low : Int) (high : Int) : Option Bool :=
  some ((decide ((low : Int) ≤ n)) && (decide ((n : Int) ≤ high)))

def m_laneref2_in (n : Int) (low : Int) (high : Int) : Option Bool :=
  some ((decide ((low : Int) ≤ n)) && (decide ((n : Int) ≤ high)))

def m_laneref2_only (s : Str) (v_some : Str) : Option Bool :=
  bi (m_strings_Trim s v_some) fun y1 => some ((y1 : Str) == [])

def m_laneref2_Key (s : Str) : Option Bool :=
  bi (m_laneref2_in (s.length : Int) 1 40) fun y1 => bi (bif y1 then (bi (subZ s 0 1) fun z6 => bi (m_laneref2_only z6 [97, 98, 99, 100, 101, 102, 103, 104, 105, 106, 107, 108, 109, 110, 111, 112, 113, 114, 115, 116, 117, 118, 119, 120, 121, 122]) fun y8 => some y8) else (some false)) fun q3 => bi (bif q3 then (bi (m_laneref2_only s [97, 98, 99, 100, 101, 102, 103, 104, 105, 106, 107, 108, 109, 110, 111, 112, 113, 114, 115, 116, 117, 118, 119, 120, 121, 122, 48, 49, 50, 51, 52, 53, 54, 55, 56, 57, 45, 95]) fun y14 => some y14) else (some false)) fun q11 => some q11

def m_laneref2_AddrFault (a : T_api_Addr) : Option Int :=
  bif ((!a.Six) && ((decide ((a.Hi : Int) > 0)) || (decide ((a.Lo : Int) > 4294967295)))) then (some 3) else (some 0)

def m_laneref1_CalledFault (root : Str) (life : Int) (l : List T_api_Called) (nodes : List T_api_Node) : Option Int :=
  bi (m_laneref1_DomainFault root) fun y1 => bif (y1 : Int) != 0 then (some y1) else (bi (m_laneref1_in life 0 1000000) fun y5 => bif !y5 then (some 1) else (bif decide (((l.length : Int) : Int) > 500) then (some 2) else (bi (rangeM (σ := Unit) (ρ := Int) (fun i11 x13 s12 => bi (m_laneref2_Key x13.Node) fun y22 => bi (bif !y22 then (some true) else (bi (m_laneref1_LabelForm x13.Label) fun y28 => some (!y28))) fun q24 => bif q24 then (bi (some 5) fun v => some (.out v)) else (bi (bif decide (((i11 : Int) : Int) > 0) then (bi (getZ l (wi ((i11 : Int) - 1))) fun x37 => some (Op.bytesLess x13.Node x37.Node || (x13.Node : Str) == x37.Node)) else (some false)) fun q34 => bif q34 then (bi (some 7) fun v => some (.out v)) else (some (.go ())))) 0 l ()) fun q => goI q fun a16 => bif decide (((nodes.length : Int) : Int) > 500) then (some 2) else (bi (rangeM (σ := Unit) (ρ := Int) (fun i46 x48 s47 => bi (m_laneref2_Key x48.Key) fun y57 => bif !y57 then (bi (some 5) fun v => some (.out v)) else (bi (bif decide (((i46 : Int) : Int) > 0) then (bi (getZ nodes (wi ((i46 : Int) - 1))) fun x66 => some (Op.bytesLess x48.Key x66.Key || (x48.Key : Str) == x66.Key)) else (some false)) fun q63 => bif q63 then (bi (some 7) fun v => some (.out v)) else (bif decide (((x48.Addrs.length : Int) : Int) > 4) then (bi (some 2) fun v => some (.out v)) else (bi (rangeM (σ := Unit) (ρ := LS Unit Int) (fun i77 x79 s78 => bi (m_laneref2_AddrFault x79) fun y88 => bif (y88 : Int) != 0 then (bi (bi (some y88) fun v => some (.out v)) fun v => some (.out v)) else (some (.go ()))) 0 x48.Addrs ()) fun q => goI q fun a82 => some (.go ()))))) 0 nodes ()) fun q => goI q fun a51 => some 0))))

def m_slices_Equal_api_Record_api_Record (s1 : List T_api_Record) (s2 : List T_api_Record) : Option Bool :=
  bif ((s1.length : Int) : Int) != (s2.length : Int) then (some false) else (bi (rangeM (σ := Unit) (ρ := Bool) (fun i3 x5 s4 => bi (getZ s2 (i3 : Int)) fun x14 => bif !(((x5.Name : Str) == x14.Name) && (((x5.Kind : Int) == x14.Kind) && ((((x5.Addr.Six : Bool) == x14.Addr.Six) && (((x5.Addr.Hi : Int) == x14.Addr.Hi) && (((x5.Addr.Lo : Int) == x14.Addr.Lo) && true))) && (((x5.To : Str) == x14.To) && (((x5.Words : Str) == x14.Words) && (((x5.Life : Int) == x14.Life) && true)))))) then (bi (some false) fun v => some (.out v)) else (some (.go ()))) 0 s1 ()) fun q => goI q fun a8 => some true)

def m_laneref1_SameZone (a : T_api_Zone) (b : T_api_Zone) : Option Bool :=
  bi (bif (a.Root : Str) == b.Root then (bi (m_slices_Equal_api_Record_api_Record a.Records b.Records) fun y4 => some y4) else (some false)) fun q1 => some q1

def m_name_Label (s : Str) : Option Str :=
  bi (gd (decide ((s.length : Int) ≤ 9223372036854775807)) (rangeG (σ := List Int) (fun i1 s2 => bi (getZ s (i1 : Int)) fun c13 => bi (bif ((decide (((c13.toNat : Int) : Int) ≥ 65)) && (decide (((c13.toNat : Int) : Int) ≤ 90))) then (some (IntKind.u8.wrap ((c13.toNat : Int) + 32))) else (some (c13.toNat : Int))) fun q15 => bi (m_name_isLetter q15) fun y19 => bif y19 then (bi (apd s2 [q15]) fun y22 => some y22) else (bi (bif ((s2.length : Int) : Int) == 0 then (some true) else (bi (getZ s2 (wi ((s2.length : Int) - 1))) fun x29 => some ((x29 : Int) != 45))) fun q25 => bif q25 then (bi (apd s2 [45]) fun y33 => some y33) else (some s2))) (s.length : Int) ([] : List Int))) fun q4 => bi (subZ q4 0 (if 63 < (q4.length : Int) then 63 else (q4.length : Int))) fun z36 => bi (strB z36) fun y38 => bi (m_strings_Trim y38 [45]) fun y40 => bif (y40 : Str) == [] then (some [110, 111, 100, 101]) else (some y40)

def m_lanelaw1_named (k : Nat) : Option Bool :=
  bi (m_name_Label [65, 32, 98]) fun y1 => bi (bif (y1 : Str) == [97, 45, 98] then (bi (m_name_CheckDomain k [97, 46, 46, 98]) fun y6 => some ((y6 : Int) == 5)) else (some false)) fun q3 => some q3

def m_laneref1_BackName (k : Nat) (a : T_api_Addr) : Option Str :=
  bif !a.Six then (bi (loopM (σ := Str × Int) (ρ := Str) (fun s3 => bif decide ((s3.2 : Int) < 4) then (bi (shrZ .u64 a.Lo (wi (8 * s3.2))) fun y13 => bi (m_strconv_Itoa (wi (bitsV .and .u64 y13 255))) fun y15 => bi (catZ y15 [46]) fun y17 => bi (catZ s3.1 y17) fun y19 => some (.go (y19, wi (s3.2 + 1)))) else (some (.out s3.1))) k ([], 0)) fun q5 => bi (catZ q5 [105, 110, 45, 97, 100, 100, 114, 46, 97, 114, 112, 97]) fun y22 => some y22) else (bi (rangeF (σ := Str) (fun i25 x27 s26 => bi (loopM (σ := Str × Int) (ρ := Str) (fun s37 => bif decide ((s37.2 : Int) < 16) then (bi (shrZ .u64 x27 (wi (4 * s37.2))) fun y47 => bi (getZ ([48, 49, 50, 51, 52, 53, 54, 55, 56, 57, 97, 98, 99, 100, 101, 102] : Str) (bitsV .and .u64 y47 15)) fun c49 => bi (catZ (runeS (c49.toNat : Int)) [46]) fun y51 => bi (catZ s37.1 y51) fun y53 => some (.go (y53, wi (s37.2 + 1)))) else (some (.out s37.1))) k (s26, 0)) fun q39 => some q39) 0 [a.Lo, a.Hi] []) fun q28 => bi (catZ q28 [105, 112, 54, 46, 97, 114, 112, 97]) fun y56 => some y56)

def m_laneref1_IsUnder (name : Str) (zone : Str) : Option Bool :=
  bi (bif (name : Str) == zone then (some true) else (bi (catZ [46] zone) fun y5 => bi (m_strings_HasSuffix name y5) fun y7 => some y7)) fun q1 => some q1

def m_laneref1_recordOrder (a : T_api_Record) (b : T_api_Record) : Option Int :=
  bi (m_strings_Compare a.Name b.Name) fun y1 => bi (m_cmp_Compare_int a.Kind b.Kind) fun y3 => bi (m_cmp_Compare_uint64 a.Addr.Hi b.Addr.Hi) fun y5 => bi (m_cmp_Compare_uint64 a.Addr.Lo b.Addr.Lo) fun y7 => bi (m_strings_Compare a.To b.To) fun y9 => bi (m_strings_Compare a.Words b.Words) fun y11 => bi (m_cmp_Or_int [y1, y3, y5, y7, y9, y11]) fun y13 => some y13

def m_slices_insertionSortCmpFunc_api_Record (k : Nat) (data : List T_api_Record) (a : Int) (b : Int) : Option (List T_api_Record) :=
  bi (loopM (σ := (List T_api_Record) × Int) (ρ := List T_api_Record) (fun s2 => bif decide ((s2.2 : Int) < b) then (bi (loopM (σ := (List T_api_Record) × Int) (ρ := List T_api_Record) (fun s13 => bi (bif decide ((s13.2 : Int) > a) then (bi (getZ s13.1 s13.2) fun x25 => bi (getZ s13.1 (wi (s13.2 - 1))) fun x28 => bi (m_laneref1_recordOrder x25 x28) fun y31 => some (decide ((y31 : Int) < 0))) else (some false)) fun q22 => bif q22 then (bi (getZ s13.1 (wi (s13.2 - 1))) fun x35 => bi (getZ s13.1 s13.2) fun x38 => bi (getZ s13.1 s13.2) fun x41 => bi (getZ s13.1 (wi (s13.2 - 1))) fun x44 => bi (getZ (s13.1.set s13.2.toNat x35) (((wi (s13.2 - 1)).toNat : Nat) : Int)) fun x47 => some (.go ((s13.1.set s13.2.toNat x35).set ((wi (s13.2 - 1)).toNat) x38, wi (s13.2 - 1)))) else (some (.out s13.1))) k (s2.1, s2.2)) fun q15 => some (.go (q15, wi (s2.2 + 1)))) else (some (.out s2.1))) k (data, wi (a + 1))) fun q4 => some q4

def m_slices_swapRangeCmpFunc_api_Record (k : Nat) (data : List T_api_Record) (a : Int) (b : Int) (n : Int) : Option (List T_api_Record) :=
  bi (loopM (σ := (List T_api_Record) × Int) (ρ := List T_api_Record) (fun s2 => bif decide ((s2.2 : Int) < n) then (bi (getZ s2.1 (wi (b + s2.2))) fun x12 => bi (getZ s2.1 (wi (a + s2.2))) fun x15 => bi (getZ s2.1 (wi (a + s2.2))) fun x18 => bi (getZ s2.1 (wi (b + s2.2))) fun x21 => bi (getZ (s2.1.set ((wi (a + s2.2)).toNat) x12) (((wi (b + s2.2)).toNat : Nat) : Int)) fun x24 => some (.go ((s2.1.set ((wi (a + s2.2)).toNat) x12).set ((wi (b + s2.2)).toNat) x15, wi (s2.2 + 1)))) else (some (.out s2.1))) k (data, 0)) fun q4 => some q4

def m_slices_rotateCmpFunc_api_Record (k : Nat) (data : List T_api_Record) (a : Int) (m : Int) (b : Int) : Option (List T_api_Record) :=
  bi (loopM (σ := (List T_api_Record) × Int × Int) (ρ := (List T_api_Record) × Int) (fun s2 => bif (s2.2.1 : Int) != s2.2.2 then (bif decide ((s2.2.1 : Int) > s2.2.2) then (bi (m_slices_swapRangeCmpFunc_api_Record k s2.1 (wi (m - s2.2.1)) m s2.2.2) fun y13 => gd (decide (y13.length = s2.1.length)) (some (.go (y13, wi (s2.2.1 - s2.2.2), s2.2.2)))) else (bi (m_slices_swapRangeCmpFunc_api_Record k s2.1 (wi (m - s2.2.1)) (wi ((wi (m + s2.2.2)) - s2.2.1)) s2.2.1) fun y18 => gd (decide (y18.length = s2.1.length)) (some (.go (y18, s2.2.1, wi (s2.2.2 - s2.2.1)))))) else (some (.out (s2.1, s2.2.1)))) k (data, wi (m - a), wi (b - m))) fun q4 => bi (m_slices_swapRangeCmpFunc_api_Record k q4.1 (wi (m - q4.2)) m q4.2) fun y23 => some y23

def m_slices_symMergeCmpFunc_api_Record : Nat → (List T_api_Record) → Int → Int → Int → Option (List T_api_Record)
  | 0, _, _, _, _ => none
  | k + 1, data, a, m, b => bif (wi (m - a) : Int) == 1 then (bi (loopM (σ := Int × Int) (ρ := Int) (fun s3 => bif decide ((s3.1 : Int) < s3.2) then (bi (getZ data (wi (shrV .u64 (IntKind.u64.wrap (wi (s3.1 + s3.2))) 1))) fun x13 => bi (getZ data a) fun x16 => bi (m_laneref1_recordOrder x13 x16) fun y19 => bif decide ((y19 : Int) < 0) then (some (.go (wi ((wi (shrV .u64 (IntKind.u64.wrap (wi (s3.1 + s3.2))) 1)) + 1), s3.2))) else (some (.go (s3.1, wi (shrV .u64 (IntKind.u64.wrap (wi (s3.1 + s3.2))) 1))))) else (some (.out s3.1))) k (m, b)) fun q5 => bi (loopM (σ := (List T_api_Record) × Int) (ρ := List T_api_Record) (fun s25 => bif decide ((s25.2 : Int) < (wi (q5 - 1))) then (bi (getZ s25.1 (wi (s25.2 + 1))) fun x35 => bi (getZ s25.1 s25.2) fun x38 => bi (getZ s25.1 s25.2) fun x41 => bi (getZ s25.1 (wi (s25.2 + 1))) fun x44 => bi (getZ (s25.1.set s25.2.toNat x35) (((wi (s25.2 + 1)).toNat : Nat) : Int)) fun x47 => some (.go ((s25.1.set s25.2.toNat x35).set ((wi (s25.2 + 1)).toNat) x38, wi (s25.2 + 1)))) else (some (.out s25.1))) k (data, a)) fun q27 => some q27) else (bif (wi (b - m) : Int) == 1 then (bi (loopM (σ := Int × Int) (ρ := Int) (fun s54 => bif decide ((s54.1 : Int) < s54.2) then (bi (getZ data m) fun x64 => bi (getZ data (wi (shrV .u64 (IntKind.u64.wrap (wi (s54.1 + s54.2))) 1))) fun x67 => bi (m_laneref1_recordOrder x64 x67) fun y70 => bif !(decide ((y70 : Int) < 0)) then (some (.go (wi ((wi (shrV .u64 (IntKind.u64.wrap (wi (s54.1 + s54.2))) 1)) + 1), s54.2))) else (some (.go (s54.1, wi (shrV .u64 (IntKind.u64.wrap (wi (s54.1 + s54.2))) 1))))) else (some (.out s54.1))) k (a, m)) fun q56 => bi (loopM (σ := (List T_api_Record) × Int) (ρ := List T_api_Record) (fun s76 => bif decide ((s76.2 : Int) > q56) then (bi (getZ s76.1 (wi (s76.2 - 1))) fun x86 => bi (getZ s76.1 s76.2) fun x89 => bi (getZ s76.1 s76.2) fun x92 => bi (getZ s76.1 (wi (s76.2 - 1))) fun x95 => bi (getZ (s76.1.set s76.2.toNat x86) (((wi (s76.2 - 1)).toNat : Nat) : Int)) fun x98 => some (.go ((s76.1.set s76.2.toNat x86).set ((wi (s76.2 - 1)).toNat) x89, wi (s76.2 - 1)))) else (some (.out s76.1))) k (data, m)) fun q78 => some q78) else (bi (bif decide ((m : Int) > (wi (shrV .u64 (IntKind.u64.wrap (wi (a + b))) 1))) then (some (wi ((wi ((wi (shrV .u64 (IntKind.u64.wrap (wi (a + b))) 1)) + m)) - b), wi (shrV .u64 (IntKind.u64.wrap (wi (a + b))) 1))) else (some (a, m))) fun q103 => bi (loopM (σ := Int × Int) (ρ := Int) (fun s108 => bif decide ((s108.1 : Int) < s108.2) then (bi (getZ data (wi ((wi ((wi ((wi (shrV .u64 (IntKind.u64.wrap (wi (a + b))) 1)) + m)) - 1)) - (wi (shrV .u64 (IntKind.u64.wrap (wi (s108.1 + s108.2))) 1))))) fun x118 => bi (getZ data (wi (shrV .u64 (IntKind.u64.wrap (wi (s108.1 + s108.2))) 1))) fun x121 => bi (m_laneref1_recordOrder x118 x121) fun y124 => bif !(decide ((y124 : Int) < 0)) then (some (.go (wi ((wi (shrV .u64 (IntKind.u64.wrap (wi (s108.1 + s108.2))) 1)) + 1), s108.2))) else (some (.go (s108.1, wi (shrV .u64 (IntKind.u64.wrap (wi (s108.1 + s108.2))) 1))))) else (some (.out s108.1))) k (q103.1, q103.2)) fun q110 => bi (bif ((decide ((q110 : Int) < m)) && (decide ((m : Int) < (wi ((wi ((wi (shrV .u64 (IntKind.u64.wrap (wi (a + b))) 1)) + m)) - q110))))) then (bi (m_slices_rotateCmpFunc_api_Record k data q110 m (wi ((wi ((wi (shrV .u64 (IntKind.u64.wrap (wi (a + b))) 1)) + m)) - q110))) fun y132 => gd (decide (y132.length = data.length)) (some y132)) else (some data)) fun q129 => bi (bif ((decide ((a : Int) < q110)) && (decide ((q110 : Int) < (wi (shrV .u64 (IntKind.u64.wrap (wi (a + b))) 1))))) then (bi (m_slices_symMergeCmpFunc_api_Record k q129 a q110 (wi (shrV .u64 (IntKind.u64.wrap (wi (a + b))) 1))) fun y140 => gd (decide (y140.length = q129.length)) (some y140)) else (some q129)) fun q137 => bif ((decide ((wi (shrV .u64 (IntKind.u64.wrap (wi (a + b))) 1) : Int) < (wi ((wi ((wi (shrV .u64 (IntKind.u64.wrap (wi (a + b))) 1)) + m)) - q110)))) && (decide ((wi ((wi ((wi (shrV .u64 (IntKind.u64.wrap (wi (a + b))) 1)) + m)) - q110) : Int) < b))) then (bi (m_slices_symMergeCmpFunc_api_Record k q137 (wi (shrV .u64 (IntKind.u64.wrap (wi (a + b))) 1)) (wi ((wi ((wi (shrV .u64 (IntKind.u64.wrap (wi (a + b))) 1)) + m)) - q110)) b) fun y146 => some y146) else (some q137)))

def m_slices_stableCmpFunc_api_Record (k : Nat) (data : List T_api_Record) (n : Int) : Option (List T_api_Record) :=
  bi (loopM (σ := (List T_api_Record) × Int × Int) (ρ := (List T_api_Record) × Int) (fun s2 => bif decide ((s2.2.2 : Int) ≤ n) then (bi (m_slices_insertionSortCmpFunc_api_Record k s2.1 s2.2.1 s2.2.2) fun y12 => gd (decide (y12.length = s2.1.length)) (some (.go (y12, s2.2.2, wi (s2.2.2 + 20))))) else (some (.out (s2.1, s2.2.1)))) k (data, 0, 20)) fun q4 => bi (m_slices_insertionSortCmpFunc_api_Record k q4.1 q4.2 n) fun y17 => gd (decide (y17.length = q4.1.length)) (bi (loopM (σ := (List T_api_Record) × Int) (ρ := List T_api_Record) (fun s22 => bif decide ((s22.2 : Int) < n) then (bi (loopM (σ := (List T_api_Record) × Int × Int) (ρ := (List T_api_Record) × Int) (fun s33 => bif decide ((s33.2.2 : Int) ≤ n) then (bi (m_slices_symMergeCmpFunc_api_Record k s33.1 s33.2.1 (wi (s33.2.1 + s22.2)) s33.2.2) fun y43 => gd (decide (y43.length = s33.1.length)) (some (.go (y43, s33.2.2, wi (s33.2.2 + (wi (2 * s22.2))))))) else (some (.out (s33.1, s33.2.1)))) k (s22.1, 0, wi (2 * s22.2))) fun q35 => bif decide ((wi (q35.2 + s22.2) : Int) < n) then (bi (m_slices_symMergeCmpFunc_api_Record k q35.1 q35.2 (wi (q35.2 + s22.2)) n) fun y49 => gd (decide (y49.length = q35.1.length)) (some (.go (y49, wi (s22.2 * 2))))) else (some (.go (q35.1, wi (s22.2 * 2))))) else (some (.out s22.1))) k (y17, 20)) fun q24 => some q24)

def m_slices_SortStableFunc_api_Record_api_Record (k : Nat) (x : List T_api_Record) : Option (List T_api_Record) :=
  bi (m_slices_stableCmpFunc_api_Record k x (x.length : Int)) fun y1 => some y1

def m_laneref1_Kinds  : Option (List Int) :=
  some [1, 5, 12, 16, 28]

def m_slices_Index_int_int (s : List Int) (v : Int) : Option Int :=
  bi (rangeM (σ := Unit) (ρ := Int) (fun i1 x3 s2 => bif (v : Int) == x3 then (bi (some (i1 : Int)) fun v => some (.out v)) else (some (.go ()))) 0 s ()) fun q => goI q fun a6 => some (-1)

def m_slices_Contains_int_int (s : List Int) (v : Int) : Option Bool :=
  bi (m_slices_Index_int_int s v) fun y1 => some (decide ((y1 : Int) ≥ 0))

def m_laneref1_plain (s : Str) : Option Bool :=
  bi (gd (decide ((s.length : Int) ≤ 9223372036854775807)) (rangeI (σ := Unit) (ρ := Bool) (fun i1 s2 => bi (getZ s (i1 : Int)) fun c13 => bi (bif decide (((c13.toNat : Int) : Int) < 32) then (some true) else (bi (getZ s (i1 : Int)) fun c19 => some (((c19.toNat : Int) : Int) == 127))) fun q15 => bif q15 then (bi (some false) fun v => some (.out v)) else (some (.go ()))) (s.length : Int) ())) fun q => goI q fun a6 => bi (m_utf8_ValidString s) fun y25 => bi (bif y25 then (bi (m_strings_Trim s [32]) fun y30 => some ((s : Str) == y30)) else (some false)) fun q27 => bi (bif q27 then (bi (m_strings_Contains s [32, 32]) fun y36 => some (!y36)) else (some false)) fun q33 => some q33

def m_laneref1_RecordFault (v_r : T_api_Record) : Option Int :=
  bi (bif decide (((v_r.Name.length : Int) : Int) > 253) then (some true) else (bi (m_strings_TrimPrefix v_r.Name [42, 46]) fun y5 => bi (m_laneref1_DomainFault y5) fun y7 => some ((y7 : Int) != 0))) fun q1 => bif q1 then (some 5) else (bi m_laneref1_Kinds fun y11 => bi (m_slices_Contains_int_int y11 v_r.Kind) fun y13 => bif !y13 then (some 4) else (bi (bif (v_r.Kind : Int) == 1 then (some true) else (some ((v_r.Kind : Int) == 28))) fun q17 => bi (bif q17 then (bi (m_laneref2_AddrFault v_r.Addr) fun y24 => some (((y24 : Int) != 0) || (!((v_r.Addr.Six : Bool) == ((v_r.Kind : Int) == 28))))) else (some false)) fun q21 => bif (q21 || ((!q17) && (!(((v_r.Addr.Six : Bool) == false) && (((v_r.Addr.Hi : Int) == 0) && (((v_r.Addr.Lo : Int) == 0) && true)))))) then (some 3) else (bi (bif (((v_r.Kind : Int) == 5) || ((v_r.Kind : Int) == 12)) then (bi (m_laneref1_DomainFault v_r.To) fun y33 => bif (y33 : Int) != 0 then (bi (some 5) fun v => some (.inr v)) else (some (.inl ()))) else (bif !((v_r.To : Str) == []) then (bi (some 3) fun v => some (.inr v)) else (some (.inl ()))) : Option (Unit ⊕ Int)) fun q => orI q fun a31 => bi (bif (((v_r.Kind : Int) != 16) && (!((v_r.Words : Str) == []))) then (some true) else (bi (m_laneref1_plain v_r.Words) fun y48 => some (!y48))) fun q44 => bif (q44 || (decide (((v_r.Words.length : Int) : Int) > 200))) then (some 3) else (bi (m_laneref1_in v_r.Life 0 1000000) fun y52 => bif !y52 then (some 1) else (some 0)))))

def m_laneref1_bare (s : Str) : Option Str :=
  bi (m_strings_TrimPrefix s [42, 46]) fun y1 => some y1

def m_laneref1_ZoneFault (z : T_api_Zone) : Option Int :=
  bi (m_laneref1_DomainFault z.Root) fun y1 => bif (y1 : Int) != 0 then (some y1) else (bif decide (((z.Records.length : Int) : Int) > 2000) then (some 2) else (bi (rangeM (σ := Unit) (ρ := Int) (fun i7 x9 s8 => bi (m_laneref1_RecordFault x9) fun y18 => bif (y18 : Int) != 0 then (bi (some y18) fun v => some (.out v)) else (bi (m_laneref1_bare x9.Name) fun y24 => bi (m_laneref1_IsUnder y24 z.Root) fun y26 => bif !y26 then (bi (some 16) fun v => some (.out v)) else (bif ((i7 : Int) : Int) == 0 then (some (.go ())) else (bi (getZ z.Records (wi ((i7 : Int) - 1))) fun x34 => bi (m_laneref1_recordOrder x34 x9) fun y36 => bif (y36 : Int) == 0 then (bi (some 6) fun v => some (.out v)) else (bif decide ((y36 : Int) > 0) then (bi (some 7) fun v => some (.out v)) else (bif (((x34.Name : Str) == x9.Name) && (((x9.Kind : Int) == 5) || ((x34.Kind : Int) == 5))) then (bi (some 13) fun v => some (.out v)) else (some (.go ())))))))) 0 z.Records ()) fun q => goI q fun a12 => some 0))

def m_laneref1_ZoneFrom (k : Nat) (root : Str) (life : Int) (l : List T_api_Called) (nodes : List T_api_Node) : Option (T_api_Zone × Int) :=
  bi (rangeF (σ := List T_api_Record) (fun i1 x3 s2 => bi (rangeF (σ := List T_api_Record) (fun i12 x14 s13 => bif !((x14.Node : Str) == x3.Key) then (some s13) else (bi (catZ x14.Label [46]) fun y25 => bi (catZ y25 root) fun y27 => bi (rangeF (σ := List T_api_Record) (fun i29 x31 s30 => bi (bif x31.Six then (some 28) else (some 1)) fun q40 => bi (apd s30 [(⟨y27, q40, x31, [], [], life⟩ : T_api_Record)]) fun y44 => bi (m_laneref1_BackName k x31) fun y46 => bi (m_laneref1_IsUnder y46 root) fun y48 => bif y48 then (bi (apd y44 [(⟨y46, 12, (⟨false, 0, 0⟩ : T_api_Addr), y27, [], life⟩ : T_api_Record)]) fun y51 => some y51) else (some y44)) 0 x3.Addrs s13) fun q32 => some q32)) 0 l s2) fun q15 => some q15) 0 nodes ([] : List T_api_Record)) fun q4 => bi (m_slices_SortStableFunc_api_Record_api_Record k q4) fun y54 => gd (decide (y54.length = q4.length)) (bi (m_laneref1_ZoneFault (⟨root, y54⟩ : T_api_Zone)) fun y58 => bif (y58 : Int) != 0 then (some ((⟨[], ([] : List T_api_Record)⟩ : T_api_Zone), y58)) else (some ((⟨root, y54⟩ : T_api_Zone), 0)))

def m_lanelaw1_ZonesMade (k : Nat) (l : List Int) : Option Bool :=
  bi (m_lanemake_Stream_Some (⟨l, 0⟩ : T_lanemake_Stream) [[110, 101, 116, 46, 120], [110, 101, 116, 46, 120], [54, 52, 46, 49, 48, 48, 46, 105, 110, 45, 97, 100, 100, 114, 46, 97, 114, 112, 97], [97, 114, 112, 97], []]) fun y1 => bi (m_lanemake_Stream_Pick y1.2 [0, 300, -1, 1000001]) fun y3 => bi (m_lanemake_Stream_Called y3.2) fun y5 => bi (m_lanemake_Stream_Nodes k y5.2 5) fun y7 => bi (m_name_ZoneOf k y1.1 y3.1 y5.1 y7.1) fun y9 => bi (m_laneref1_CalledFault y1.1 y3.1 y5.1 y7.1) fun y11 => bif (y11 : Int) != 0 then (bi (bif (y9.2 : Int) == y11 then (bi (m_laneref1_SameZone y9.1 (⟨[], []⟩ : T_api_Zone)) fun y17 => some y17) else (some false)) fun q14 => bi (bif q14 then (bi (m_lanelaw1_named k) fun y23 => some y23) else (some false)) fun q20 => some q20) else (bi (m_laneref1_ZoneFrom k y1.1 y3.1 y5.1 y7.1) fun y27 => bi (bif (y9.2 : Int) == y27.2 then (bi (m_laneref1_SameZone y9.1 y27.1) fun y32 => some y32) else (some false)) fun q29 => bi (bif q29 then (bi (m_lanelaw1_named k) fun y38 => some y38) else (some false)) fun q35 => some q35)

end
end Go.Gk
