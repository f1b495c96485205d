/-
  Models of functions.
-/
import Derived.Test.YthhdojhbohfmnaaGreatDoorMStr9
set_option linter.unusedSimpArgs false
set_option linter.unusedVariables false
namespace Go.Gk
noncomputable section
structure T_lanemake_Stream where
  L : List Int
  v_at : Int
  deriving DecidableEq
structure T_api_Attr where
  Kind : Int
  Number : Int
  Words : Str
  Version : (Int × Int × Int × Int)
  deriving DecidableEq
structure T_api_Cond where
  Kind : Int
  Name : Str
  Op : Str
  Value : T_api_Attr
  Kids : KD
abbrev e_api_Cond (x : T_api_Cond) : List D := [.v (.int .i64 x.Kind), .v (.string ⟨x.Name.toArray⟩), .v (.string ⟨x.Op.toArray⟩), .v (.int .i64 x.Value.Kind), .v (.int .i64 x.Value.Number), .v (.string ⟨x.Value.Words.toArray⟩), .v (.int .i64 x.Value.Version.1), .v (.int .i64 x.Value.Version.2.1), .v (.int .i64 x.Value.Version.2.2.1), .v (.int .i64 x.Value.Version.2.2.2), .ro x.Kids.n x.Kids.xs]
def d_api_Cond : List D → Option T_api_Cond
  | [c0, c1, c2, c3, c4, c5, c6, c7, c8, c9, c10] => bi (rdI .i64 c0) fun y0 => bi (rdS c1) fun y1 => bi (rdS c2) fun y2 => bi (rdI .i64 c3) fun y3 => bi (rdI .i64 c4) fun y4 => bi (rdS c5) fun y5 => bi (rdI .i64 c6) fun y6 => bi (rdI .i64 c7) fun y7 => bi (rdI .i64 c8) fun y8 => bi (rdI .i64 c9) fun y9 => bi (rdK c10) fun y10 => some (⟨y0, y1, y2, (⟨y3, y4, y5, (y6, y7, y8, y9)⟩ : T_api_Attr), y10⟩ : T_api_Cond)
  | _ => none
theorem dk_api_Cond : DecOk e_api_Cond d_api_Cond := by
  intro ds x h
  unfold d_api_Cond at h
  split at h
  · obtain ⟨y0, hy0, h⟩ := bi_ok h
    obtain ⟨y1, hy1, h⟩ := bi_ok h
    obtain ⟨y2, hy2, h⟩ := bi_ok h
    obtain ⟨y3, hy3, h⟩ := bi_ok h
    obtain ⟨y4, hy4, h⟩ := bi_ok h
    obtain ⟨y5, hy5, h⟩ := bi_ok h
    obtain ⟨y6, hy6, h⟩ := bi_ok h
    obtain ⟨y7, hy7, h⟩ := bi_ok h
    obtain ⟨y8, hy8, h⟩ := bi_ok h
    obtain ⟨y9, hy9, h⟩ := bi_ok h
    obtain ⟨y10, hy10, h⟩ := bi_ok h
    obtain rfl := rdI_eq hy0
    obtain rfl := rdS_eq hy1
    obtain rfl := rdS_eq hy2
    obtain rfl := rdI_eq hy3
    obtain rfl := rdI_eq hy4
    obtain rfl := rdS_eq hy5
    obtain rfl := rdI_eq hy6
    obtain rfl := rdI_eq hy7
    obtain rfl := rdI_eq hy8
    obtain rfl := rdI_eq hy9
    obtain rfl := rdK_eq hy10
    cases h
    rfl
  · cases h
theorem de_api_Cond (x : T_api_Cond) : d_api_Cond (e_api_Cond x) = some x := by
  cases x
  simp [e_api_Cond, d_api_Cond]

structure T_posture_token where
  kind : Str
  v_at : Int
  v_end : Int
  name : Str
  value : T_api_Attr
  deriving DecidableEq
structure T_posture_parser where
  s : Str
  tok : T_posture_token
  bad : Bool
  v_at : Int
  deriving DecidableEq
structure T_laneref1_token where
  kind : Str
  v_at : Int
  name : Str
  value : T_api_Attr
  deriving DecidableEq
structure T_laneref1_condReader where
  s : Str
  v_at : Int
  v_next : T_laneref1_token
  fault : Int
  deriving DecidableEq


def m_lanemake_Below (x : Int) (n : Int) : Option Int :=
  bif decide ((n : Int) < 1) then (some 0) else (bi (remZ x n) fun y3 => bi (bif decide ((y3 : Int) < 0) then (some (wi (y3 + n))) else (some y3)) fun q5 => some q5)

def m_lanemake_Stream_Next (s : T_lanemake_Stream) (n : Int) : Option (Int × T_lanemake_Stream) :=
  bif ((s.L.length : Int) : Int) == 0 then (bi (m_lanemake_Below (wi ((wi (s.v_at + 1)) * 7919)) n) fun y2 => some (y2, (⟨s.L, wi (s.v_at + 1)⟩ : T_lanemake_Stream))) else (bi (remZ (wi ((wi (s.v_at + 1)) - 1)) (s.L.length : Int)) fun y5 => bi (divZ .i64 (wi ((wi (s.v_at + 1)) - 1)) (s.L.length : Int)) fun y7 => bi (getZ s.L y5) fun x9 => bi (m_lanemake_Below x9 1073741824) fun y11 => bi (m_lanemake_Below (wi (y11 + (wi (y7 * (wi (7919 + y5)))))) n) fun y13 => some (y13, (⟨s.L, wi (s.v_at + 1)⟩ : T_lanemake_Stream)))

def m_lanemake_Stream_Flip (s : T_lanemake_Stream) (n : Int) : Option (Bool × T_lanemake_Stream) :=
  bi (m_lanemake_Stream_Next s n) fun y1 => some ((y1.1 : Int) == 0, y1.2)

def m_lanemake_Stream_Some (s : T_lanemake_Stream) (l : List Str) : Option (Str × T_lanemake_Stream) :=
  bi (m_lanemake_Stream_Next s (l.length : Int)) fun y1 => bi (getZ l y1.1) fun x3 => some (x3, y1.2)

def m_lanemake_Stream_Pick (s : T_lanemake_Stream) (l : List Int) : Option (Int × T_lanemake_Stream) :=
  bi (m_lanemake_Stream_Next s (l.length : Int)) fun y1 => bi (getZ l y1.1) fun x3 => some (x3, y1.2)

def m_laneref1_Ops  : Option (List Str) :=
  some [[61, 61], [33, 61], [60], [60, 61], [62], [62, 61]]

def m_lanemake_Stream_RightCond : Nat → T_lanemake_Stream → Int → Option (T_api_Cond × T_lanemake_Stream)
  | 0, _, _ => none
  | k + 1, s, most => bi (bif (most : Int) == 0 then (some (s, true)) else (bi (m_lanemake_Stream_Flip s 3) fun y5 => some (y5.2, y5.1))) fun q1 => bif q1.2 then (bi (m_lanemake_Stream_Next q1.1 4) fun y8 => bif (y8.1 : Int) == 0 then (bi (m_lanemake_Stream_Some y8.2 [[61, 61], [61, 61], [33, 61]]) fun y11 => bi (m_lanemake_Stream_Next y11.2 2) fun y13 => some ((⟨1, [100, 105, 115, 107], y11.1, (⟨3, y13.1, [], (0, 0, 0, 0)⟩ : T_api_Attr), (pk e_api_Cond ([] : List T_api_Cond))⟩ : T_api_Cond), y13.2)) else (bif (y8.1 : Int) == 1 then (bi m_laneref1_Ops fun y17 => bi (m_lanemake_Stream_Some y8.2 y17) fun y19 => bi (m_lanemake_Stream_Pick y19.2 [2, 5, 12]) fun y21 => some ((⟨1, [118, 101, 114, 115, 105, 111, 110], y19.1, (⟨4, 0, [], (1, y21.1, 0, 0)⟩ : T_api_Attr), (pk e_api_Cond ([] : List T_api_Cond))⟩ : T_api_Cond), y21.2)) else (bif (y8.1 : Int) == 2 then (bi (m_lanemake_Stream_Some y8.2 [[115, 105, 122, 101], [111, 115]]) fun y25 => bi m_laneref1_Ops fun y27 => bi (m_lanemake_Stream_Some y25.2 y27) fun y29 => bi (m_lanemake_Stream_Pick y29.2 [0, 5, -3]) fun y31 => some ((⟨1, y25.1, y29.1, (⟨1, y31.1, [], (0, 0, 0, 0)⟩ : T_api_Attr), (pk e_api_Cond ([] : List T_api_Cond))⟩ : T_api_Cond), y31.2)) else (bi m_laneref1_Ops fun y34 => bi (m_lanemake_Stream_Some y8.2 y34) fun y36 => bi (m_lanemake_Stream_Some y36.2 [[108, 105, 110, 117, 120], [109, 97, 99], [120, 34, 121, 92, 122]]) fun y38 => some ((⟨1, [111, 115], y36.1, (⟨2, 0, y38.1, (0, 0, 0, 0)⟩ : T_api_Attr), (pk e_api_Cond ([] : List T_api_Cond))⟩ : T_api_Cond), y38.2))))) else (bi (m_lanemake_Stream_Pick q1.1 [2, 3, 4]) fun y41 => bi (bif (y41.1 : Int) != 2 then (bi (m_lanemake_Stream_Pick y41.2 [2, 2, 3]) fun y46 => some (y46.2, y46.1)) else (some (y41.2, 1))) fun q43 => bi (gd (decide (q43.2 ≤ 9223372036854775807)) (rangeG (σ := T_lanemake_Stream × (List T_api_Cond)) (fun i49 s50 => bi (m_lanemake_Stream_RightCond k s50.1 (wi (most - 1))) fun y61 => bif (((y61.1.Kind : Int) == y41.1) && ((y41.1 : Int) != 2)) then (bi (unK d_api_Cond 11 y61.1.Kids) fun l64 => bi (apd s50.2 l64) fun y66 => some (y61.2, y66)) else (bi (apd s50.2 [y61.1]) fun y69 => some (y61.2, y69))) q43.2 (q43.1, ([] : List T_api_Cond)))) fun q52 => some ((⟨y41.1, [], [], (⟨0, 0, [], (0, 0, 0, 0)⟩ : T_api_Attr), (pk e_api_Cond q52.2)⟩ : T_api_Cond), q52.1))

def m_laneref1_AttrText (k : Nat) (a : T_api_Attr) : Option Str :=
  bif (a.Kind : Int) == 1 then (bi (m_strconv_Itoa a.Number) fun y2 => some y2) else (bif (a.Kind : Int) == 3 then (bi (getZ [[102, 97, 108, 115, 101], [116, 114, 117, 101]] a.Number) fun x6 => some x6) else (bif (a.Kind : Int) == 4 then (bi (loopM (σ := (List Str) × Int) (ρ := List Str) (fun s11 => bif decide ((s11.2 : Int) < 4) then (bi (getZ ([a.Version.1, a.Version.2.1, a.Version.2.2.1, a.Version.2.2.2] : List Int) s11.2) fun x21 => bi (m_strconv_Itoa x21) fun y23 => bi (apd s11.1 [y23]) fun y25 => some (.go (y25, wi (s11.2 + 1)))) else (some (.out s11.1))) k (([] : List Str), 0)) fun q13 => bi (m_strings_Join q13 [46]) fun y28 => bi (catZ [118] y28) fun y30 => some y30) else (bi (m_strings_ReplaceAll a.Words [92] [92, 92]) fun y33 => bi (m_strings_ReplaceAll y33 [34] [92, 34]) fun y35 => bi (catZ [34] y35) fun y37 => bi (catZ y37 [34]) fun y39 => some y39)))

def m_laneref1_CondText : Nat → T_api_Cond → Option Str
  | 0, _ => none
  | k + 1, c => bi (unK d_api_Cond 11 c.Kids) fun l1 => bi (rangeF (σ := List Str) (fun i3 x5 s4 => bi (m_laneref1_CondText k x5) fun y14 => bi (bif ((((c.Kind : Int) == 2) && ((x5.Kind : Int) != 2)) || (((c.Kind : Int) == 3) && ((x5.Kind : Int) == 4))) then (bi (catZ [40] y14) fun y19 => bi (catZ y19 [41]) fun y21 => some y21) else (some y14)) fun q16 => bi (apd s4 [q16]) fun y24 => some y24) 0 l1 ([] : List Str)) fun q6 => bif (c.Kind : Int) == 1 then (bi (catZ c.Name [32]) fun y27 => bi (catZ y27 c.Op) fun y29 => bi (catZ y29 [32]) fun y31 => bi (m_laneref1_AttrText k c.Value) fun y33 => bi (catZ y31 y33) fun y35 => some y35) else (bif (c.Kind : Int) == 2 then (bi (getZ q6 0) fun x39 => bi (catZ [33] x39) fun y42 => some y42) else (bif (c.Kind : Int) == 3 then (bi (m_strings_Join q6 [32, 38, 38, 32]) fun y46 => some y46) else (bi (m_strings_Join q6 [32, 124, 124, 32]) fun y49 => some y49)))

def m_lanemake_Stream_Changed (s : T_lanemake_Stream) (t : Str) (v_with : Str) : Option (Str × T_lanemake_Stream) :=
  bif (((t : Str) == []) || ((v_with : Str) == [])) then (some (v_with, s)) else (bi (m_lanemake_Stream_Next s (t.length : Int)) fun y3 => bi (m_lanemake_Stream_Next y3.2 (v_with.length : Int)) fun y5 => bi (getZ v_with y5.1) fun c7 => bi (m_lanemake_Stream_Next y5.2 3) fun y9 => bif (y9.1 : Int) == 0 then (bi (subZ t 0 y3.1) fun z12 => bi (catZ z12 (runeS (IntKind.i32.wrap ((c7.toNat : Int))))) fun y14 => bi (subZ t (wi (y3.1 + 1)) (t.length : Int)) fun z16 => bi (catZ y14 z16) fun y18 => some (y18, y9.2)) else (bif (y9.1 : Int) == 1 then (bi (subZ t 0 y3.1) fun z22 => bi (catZ z22 (runeS (IntKind.i32.wrap ((c7.toNat : Int))))) fun y24 => bi (subZ t y3.1 (t.length : Int)) fun z26 => bi (catZ y24 z26) fun y28 => some (y28, y9.2)) else (bi (subZ t 0 y3.1) fun z31 => bi (subZ t (wi (y3.1 + 1)) (t.length : Int)) fun z33 => bi (catZ z31 z33) fun y35 => some (y35, y9.2))))

def m_lanemake_Stream_CondString (k : Nat) (s : T_lanemake_Stream) : Option (Str × T_lanemake_Stream) :=
  bi (m_lanemake_Stream_Flip s 3) fun y1 => bif y1.1 then (bi (m_lanemake_Stream_Some y1.2 [[97], [33, 97], [97, 38, 38, 98, 124, 124, 99], [40, 97, 38, 38, 40, 98, 38, 38, 99, 41, 41], [97, 61, 61, 53], [97, 32, 61, 61, 32, 34, 120, 92, 34, 34], [97, 32, 61, 61, 32, 118, 49], [97, 32, 61, 61, 32, 118, 49, 46, 50, 46, 51, 46, 52], [97, 32, 61, 61, 32, 118, 49, 46, 50, 46, 51, 46, 52, 46, 53], [97, 32, 61, 61, 32, 118, 49, 46], [97, 32, 60, 32, 116, 114, 117, 101], [97, 32, 61, 61, 32, 45, 53], [97, 32, 61, 61, 32, 45, 32, 53], [97, 32, 61, 61, 32, 48, 53], [116, 114, 117, 101], [118, 49, 32, 61, 61, 32, 49], [], [40], [97, 41], [97, 32, 98], [97, 32, 38, 32, 98], [33, 33, 97], [97, 61, 61, 34, 92, 120, 34], [97, 10, 38, 38, 10, 98], [97, 32, 61, 61, 32, 34, 120], [97, 61, 61, 49, 50, 51, 52, 53, 54, 55, 56, 57, 48], [97, 124, 124, 40, 98, 124, 124, 99, 41, 38, 38, 100], [40, 40, 97, 41, 41]]) fun y4 => some (y4.1, y4.2)) else (bi (m_lanemake_Stream_Pick y1.2 [1, 2]) fun y7 => bi (m_lanemake_Stream_RightCond k y7.2 y7.1) fun y9 => bi (m_laneref1_CondText k y9.1) fun y11 => bi (m_lanemake_Stream_Pick y9.2 [0, 0, 1, 2]) fun y13 => bi (gd (decide (y13.1 ≤ 9223372036854775807)) (rangeG (σ := T_lanemake_Stream × Str) (fun i15 s16 => bi (m_lanemake_Stream_Changed s16.1 s16.2 [32, 38, 124, 33, 40, 41, 61, 60, 62, 34, 92, 118, 49, 46, 45, 97]) fun y27 => some (y27.2, y27.1)) y13.1 (y13.2, y11))) fun q18 => some (q18.2, q18.1))

def m_posture_isDigit (c : Int) : Option Bool :=
  some ((decide ((c : Int) ≥ 48)) && (decide ((c : Int) ≤ 57)))

def m_posture_digits (k : Nat) (s : Str) (v_at : Int) : Option Int :=
  bi (loopM (σ := Int) (ρ := Int) (fun s2 => bi (bif decide ((s2 : Int) < (s.length : Int)) then (bi (getZ s s2) fun c14 => bi (m_posture_isDigit (c14.toNat : Int)) fun y16 => some y16) else (some false)) fun q11 => bif q11 then (some (.go (wi (s2 + 1)))) else (some (.out s2))) k v_at) fun q4 => some q4

def m_kit_Number (k : Nat) (s : Str) (most : Int) : Option (Int × Bool) :=
  bi (m_strings_TrimPrefix s [45]) fun y1 => bi (bif (((y1 : Str) == []) || (decide (((y1.length : Int) : Int) > most))) then (some true) else (bi (getZ y1 0) fun c7 => some ((((c7.toNat : Int) : Int) == 48) && (!((s : Str) == [48]))))) fun q3 => bif q3 then (some (0, false)) else (bi (loopM (σ := Int) (ρ := Unit ⊕ (Int × Bool)) (fun s12 => bif decide ((s12 : Int) < (y1.length : Int)) then (bi (getZ y1 s12) fun c22 => bi (bif decide (((c22.toNat : Int) : Int) < 48) then (some true) else (bi (getZ y1 s12) fun c28 => some (decide (((c28.toNat : Int) : Int) > 57)))) fun q24 => bif q24 then (bi (some (0, false)) fun v => some (.out (.inr v))) else (some (.go (wi (s12 + 1))))) else (some (.out (.inl ())))) k 0) fun q => orI q fun a16 => bi (m_strconv_Atoi s) fun y35 => some (y35, true))

def m_kit_Small (k : Nat) (s : Str) : Option (Int × Bool) :=
  bi (m_kit_Number k s 9) fun y1 => some (y1.1, y1.2)

def m_posture_token_number (k : Nat) (t : T_posture_token) (s : Str) : Option T_posture_token :=
  bi (getZ s t.v_at) fun c1 => bi (bif ((c1.toNat : Int) : Int) == 45 then (some (wi (t.v_at + 1))) else (some t.v_at)) fun q3 => bi (m_posture_digits k s q3) fun y7 => bi (subZ s t.v_at y7) fun z9 => bi (m_kit_Small k z9) fun y11 => bif y11.2 then (some (⟨[118, 97, 108, 117, 101], t.v_at, y7, t.name, (⟨1, y11.1, [], (0, 0, 0, 0)⟩ : T_api_Attr)⟩ : T_posture_token)) else (some (⟨t.kind, t.v_at, y7, t.name, t.value⟩ : T_posture_token))

def m_posture_token_words (k : Nat) (t : T_posture_token) (s : Str) : Option T_posture_token :=
  bi (loopM (σ := (List Int) × Int) (ρ := (List Int) ⊕ T_posture_token) (fun s2 => bif decide ((s2.2 : Int) < (s.length : Int)) then (bi (getZ s s2.2) fun c12 => bi (bif ((c12.toNat : Int) : Int) == 34 then (bi (strB s2.1) fun y18 => bi (bi (some (⟨[118, 97, 108, 117, 101], t.v_at, wi (s2.2 + 1), t.name, (⟨2, 0, y18, (0, 0, 0, 0)⟩ : T_api_Attr)⟩ : T_posture_token)) fun v => some (.out (.inr v))) fun v => some (.inr v)) else (bif ((decide (((c12.toNat : Int) : Int) < 32)) || (decide (((c12.toNat : Int) : Int) > 126))) then (bi (bi (some t) fun v => some (.out (.inr v))) fun v => some (.inr v)) else (bif ((c12.toNat : Int) : Int) == 92 then (bi (bif (wi (s2.2 + 1) : Int) == (s.length : Int) then (some true) else (bi (getZ s (wi (s2.2 + 1))) fun c36 => bi (bif ((c36.toNat : Int) : Int) != 34 then (bi (getZ s (wi (s2.2 + 1))) fun c41 => some (((c41.toNat : Int) : Int) != 92)) else (some false)) fun q38 => some q38)) fun q32 => bif q32 then (bi (bi (some t) fun v => some (.out (.inr v))) fun v => some (.inr v)) else (bi (getZ s (wi (s2.2 + 1))) fun c50 => some (.inl (wi (s2.2 + 1), (c50.toNat : Int))))) else (some (.inl (s2.2, (c12.toNat : Int)))))) : Option ((Int × Int) ⊕ (LS ((List Int) × Int) ((List Int) ⊕ T_posture_token)))) fun q => orI q fun a16 => bi (apd s2.1 [a16.2]) fun y53 => some (.go (y53, wi (a16.1 + 1)))) else (some (.out (.inl s2.1)))) k (([] : List Int), wi (t.v_at + 1))) fun q => orI q fun a6 => some t

def m_posture_isVersion (s : Str) : Option Bool :=
  bi (bif decide (((s.length : Int) : Int) > 1) then (bi (getZ s 0) fun c4 => some (((c4.toNat : Int) : Int) == 118)) else (some false)) fun q1 => bi (bif q1 then (bi (getZ s 1) fun c10 => bi (m_posture_isDigit (c10.toNat : Int)) fun y12 => some y12) else (some false)) fun q7 => some q7

def m_kit_Numbers (k : Nat) (l : List Str) : Option ((List Int) × Bool) :=
  bi (rangeM (σ := List Int) (ρ := (List Int) × Bool) (fun i1 x3 s2 => bi (m_kit_Small k x3) fun y12 => bif !y12.2 then (bi (some ([], false)) fun v => some (.out v)) else (bi (apd s2 [y12.1]) fun y18 => some (.go y18))) 0 l ([] : List Int)) fun q => goI q fun a6 => some (a6, true)

def m_posture_token_version (k : Nat) (t : T_posture_token) (s : Str) : Option T_posture_token :=
  bi (loopM (σ := Int) (ρ := Int) (fun s2 => bi (bif decide ((s2 : Int) < (s.length : Int)) then (bi (getZ s s2) fun c14 => bi (m_posture_isDigit (c14.toNat : Int)) fun y16 => bi (bif y16 then (some true) else (bi (getZ s s2) fun c22 => some (((c22.toNat : Int) : Int) == 46))) fun q18 => some q18) else (some false)) fun q11 => bif q11 then (some (.go (wi (s2 + 1)))) else (some (.out s2))) k (wi (t.v_at + 1))) fun q4 => bi (subZ s (wi (t.v_at + 1)) q4) fun z27 => bi (m_strings_Split z27 [46]) fun y29 => bi (m_kit_Numbers k y29) fun y31 => bif ((!y31.2) || (decide (((y29.length : Int) : Int) > 4))) then (some (⟨t.kind, t.v_at, q4, t.name, t.value⟩ : T_posture_token)) else (some (⟨[118, 97, 108, 117, 101], t.v_at, q4, t.name, (⟨4, 0, [], (cpA (0 : Int).toNat y31.1 0 0, cpA (0 : Int).toNat y31.1 1 0, cpA (0 : Int).toNat y31.1 2 0, cpA (0 : Int).toNat y31.1 3 0)⟩ : T_api_Attr)⟩ : T_posture_token))

def m_posture_isNameByte (c : Int) : Option Bool :=
  bi (bif ((decide ((c : Int) ≥ 97)) && (decide ((c : Int) ≤ 122))) then (some true) else (bi (m_posture_isDigit c) fun y5 => some y5)) fun q1 => some ((q1 || ((c : Int) == 45)) || ((c : Int) == 95))

def m_posture_token_word (k : Nat) (t : T_posture_token) (s : Str) : Option T_posture_token :=
  bi (loopM (σ := Int) (ρ := Int) (fun s2 => bi (bif decide ((s2 : Int) < (s.length : Int)) then (bi (getZ s s2) fun c14 => bi (m_posture_isNameByte (c14.toNat : Int)) fun y16 => some y16) else (some false)) fun q11 => bif q11 then (some (.go (wi (s2 + 1)))) else (some (.out s2))) k t.v_at) fun q4 => bi (subZ s t.v_at q4) fun z21 => bif (((z21 : Str) == [116, 114, 117, 101]) || ((z21 : Str) == [102, 97, 108, 115, 101])) then (bif (z21 : Str) == [116, 114, 117, 101] then (some (⟨[118, 97, 108, 117, 101], t.v_at, q4, z21, (⟨3, 1, [], (0, 0, 0, 0)⟩ : T_api_Attr)⟩ : T_posture_token)) else (some (⟨[118, 97, 108, 117, 101], t.v_at, q4, z21, (⟨3, 0, [], (0, 0, 0, 0)⟩ : T_api_Attr)⟩ : T_posture_token))) else (some (⟨[110, 97, 109, 101], t.v_at, q4, z21, t.value⟩ : T_posture_token))

def m_posture_tokenAt (k : Nat) (s : Str) (v_at : Int) : Option T_posture_token :=
  bif (v_at : Int) == (s.length : Int) then (some (⟨[101, 110, 100], v_at, 0, [], (⟨0, 0, [], (0, 0, 0, 0)⟩ : T_api_Attr)⟩ : T_posture_token)) else (bi (rangeM (σ := Unit) (ρ := T_posture_token) (fun i3 x5 s4 => bi (subZ s v_at (s.length : Int)) fun z14 => bi (m_strings_HasPrefix z14 x5) fun y16 => bif y16 then (bi (some (⟨x5, v_at, wi (v_at + (x5.length : Int)), [], (⟨0, 0, [], (0, 0, 0, 0)⟩ : T_api_Attr)⟩ : T_posture_token)) fun v => some (.out v)) else (some (.go ()))) 0 [[61, 61], [33, 61], [60, 61], [62, 61], [38, 38], [124, 124], [60], [62], [33], [40], [41]] ()) fun q => goI q fun a8 => bi (getZ s v_at) fun c22 => bi (bi (m_posture_isDigit (c22.toNat : Int)) fun y26 => bi (bif y26 then (some true) else (bi (bif ((((c22.toNat : Int) : Int) == 45) && (decide ((wi (v_at + 1) : Int) < (s.length : Int)))) then (bi (getZ s (wi (v_at + 1))) fun c35 => bi (m_posture_isDigit (c35.toNat : Int)) fun y37 => some y37) else (some false)) fun q32 => some q32)) fun q28 => bif q28 then (bi (m_posture_token_number k (⟨[98, 97, 100], v_at, 0, [], (⟨0, 0, [], (0, 0, 0, 0)⟩ : T_api_Attr)⟩ : T_posture_token) s) fun y41 => some y41) else (bif ((c22.toNat : Int) : Int) == 34 then (bi (m_posture_token_words k (⟨[98, 97, 100], v_at, 0, [], (⟨0, 0, [], (0, 0, 0, 0)⟩ : T_api_Attr)⟩ : T_posture_token) s) fun y45 => some y45) else (bi (subZ s v_at (s.length : Int)) fun z48 => bi (m_posture_isVersion z48) fun y50 => bif y50 then (bi (m_posture_token_version k (⟨[98, 97, 100], v_at, 0, [], (⟨0, 0, [], (0, 0, 0, 0)⟩ : T_api_Attr)⟩ : T_posture_token) s) fun y53 => some y53) else (bif ((decide (((c22.toNat : Int) : Int) ≥ 97)) && (decide (((c22.toNat : Int) : Int) ≤ 122))) then (bi (m_posture_token_word k (⟨[98, 97, 100], v_at, 0, [], (⟨0, 0, [], (0, 0, 0, 0)⟩ : T_api_Attr)⟩ : T_posture_token) s) fun y57 => some y57) else (some (⟨[98, 97, 100], v_at, 0, [], (⟨0, 0, [], (0, 0, 0, 0)⟩ : T_api_Attr)⟩ : T_posture_token)))))) fun q24 => some q24)

def m_posture_parser_next (k : Nat) (p : T_posture_parser) : Option T_posture_parser :=
  bi (loopM (σ := Int) (ρ := Int) (fun s2 => bi (bif decide ((s2 : Int) < (p.s.length : Int)) then (bi (getZ p.s s2) fun c14 => bi (bif ((c14.toNat : Int) : Int) == 32 then (some true) else (bi (getZ p.s s2) fun c20 => some (((c20.toNat : Int) : Int) == 10))) fun q16 => some q16) else (some false)) fun q11 => bif q11 then (some (.go (wi (s2 + 1)))) else (some (.out s2))) k p.tok.v_end) fun q4 => bi (m_posture_tokenAt k p.s q4) fun y25 => some (⟨p.s, y25, p.bad, p.v_at⟩ : T_posture_parser)

def m_posture_parser_fail (p : T_posture_parser) : Option (T_api_Cond × T_posture_parser) :=
  bi (bif !p.bad then (some (⟨p.s, p.tok, true, p.tok.v_at⟩ : T_posture_parser)) else (some p)) fun q1 => some ((⟨0, [], [], (⟨0, 0, [], (0, 0, 0, 0)⟩ : T_api_Attr), (KD.mk 0 [])⟩ : T_api_Cond), q1)

def m_slices_Index_string_string (s : List Str) (v : Str) : Option Int :=
  bi (rangeM (σ := Unit) (ρ := Int) (fun i1 x3 s2 => bif (v : Str) == x3 then (bi (some (i1 : Int)) fun v => some (.out v)) else (some (.go ()))) 0 s ()) fun q => goI q fun a6 => some (-1)

def m_slices_Contains_string_string (s : List Str) (v : Str) : Option Bool :=
  bi (m_slices_Index_string_string s v) fun y1 => some (decide ((y1 : Int) ≥ 0))

def m_posture_isOp (op : Str) : Option Bool :=
  bi (m_slices_Contains_string_string [[61, 61], [33, 61], [60], [60, 61], [62], [62, 61]] op) fun y1 => some y1

def m_posture_parser_comparison (k : Nat) (p : T_posture_parser) : Option (T_api_Cond × T_posture_parser) :=
  bi (m_posture_parser_next k p) fun y1 => bi (m_posture_isOp y1.tok.kind) fun y3 => bif !y3 then (some ((⟨1, p.tok.name, [61, 61], (⟨3, 1, [], (0, 0, 0, 0)⟩ : T_api_Attr), (KD.mk 0 [])⟩ : T_api_Cond), y1)) else (bi (m_posture_parser_next k y1) fun y7 => bif !((y7.tok.kind : Str) == [118, 97, 108, 117, 101]) then (bi (m_posture_parser_fail y7) fun y10 => some (y10.1, y10.2)) else (bi (m_posture_parser_next k y7) fun y13 => some ((⟨1, p.tok.name, y1.tok.kind, y7.tok.value, (KD.mk 0 [])⟩ : T_api_Cond), y13)))

def m_posture_parser_part (rc_posture_parser_cond : T_posture_parser → Option (T_api_Cond × T_posture_parser)) : Nat → T_posture_parser → Option (T_api_Cond × T_posture_parser)
  | 0, _ => none
  | k + 1, p => bif (p.tok.kind : Str) == [33] then (bi (m_posture_parser_next k p) fun y2 => bi (m_posture_parser_part rc_posture_parser_cond k y2) fun y4 => some ((⟨2, [], [], (⟨0, 0, [], (0, 0, 0, 0)⟩ : T_api_Attr), (pk e_api_Cond [y4.1])⟩ : T_api_Cond), y4.2)) else (bif (p.tok.kind : Str) == [40] then (bi (m_posture_parser_next k p) fun y8 => bi (rc_posture_parser_cond y8) fun y10 => bif y10.2.bad then (some (y10.1, y10.2)) else (bif !((y10.2.tok.kind : Str) == [41]) then (bi (m_posture_parser_fail y10.2) fun y15 => some (y15.1, y15.2)) else (bi (m_posture_parser_next k y10.2) fun y18 => some (y10.1, y18)))) else (bif (p.tok.kind : Str) == [110, 97, 109, 101] then (bi (m_posture_parser_comparison k p) fun y22 => some (y22.1, y22.2)) else (bi (m_posture_parser_fail p) fun y25 => some (y25.1, y25.2))))

def m_posture_joined (kind : Int) (l : List T_api_Cond) : Option T_api_Cond :=
  bif ((l.length : Int) : Int) == 1 then (bi (getZ l 0) fun x2 => some x2) else (bi (rangeF (σ := List T_api_Cond) (fun i5 x7 s6 => bif (x7.Kind : Int) == kind then (bi (unK d_api_Cond 11 x7.Kids) fun l17 => bi (apd s6 l17) fun y19 => some y19) else (bi (apd s6 [x7]) fun y22 => some y22)) 0 l ([] : List T_api_Cond)) fun q8 => some (⟨kind, [], [], (⟨0, 0, [], (0, 0, 0, 0)⟩ : T_api_Attr), (pk e_api_Cond q8)⟩ : T_api_Cond))

def m_posture_parser_and (rc_posture_parser_cond : T_posture_parser → Option (T_api_Cond × T_posture_parser)) (k : Nat) (p : T_posture_parser) : Option (T_api_Cond × T_posture_parser) :=
  bi (m_posture_parser_part rc_posture_parser_cond k p) fun y1 => bi (loopM (σ := T_posture_parser × (List T_api_Cond)) (ρ := T_posture_parser × (List T_api_Cond)) (fun s4 => bif ((!s4.1.bad) && ((s4.1.tok.kind : Str) == [38, 38])) then (bi (m_posture_parser_next k s4.1) fun y14 => bi (m_posture_parser_part rc_posture_parser_cond k y14) fun y16 => bi (apd s4.2 [y16.1]) fun y18 => some (.go (y16.2, y18))) else (some (.out (s4.1, s4.2)))) k (y1.2, [y1.1])) fun q6 => bi (m_posture_joined 3 q6.2) fun y21 => some (y21, q6.1)

def m_posture_parser_cond : Nat → T_posture_parser → Option (T_api_Cond × T_posture_parser)
  | 0, _ => none
  | k + 1, p => bi (m_posture_parser_and (m_posture_parser_cond k) k p) fun y1 => bi (loopM (σ := T_posture_parser × (List T_api_Cond)) (ρ := T_posture_parser × (List T_api_Cond)) (fun s4 => bif ((!s4.1.bad) && ((s4.1.tok.kind : Str) == [124, 124])) then (bi (m_posture_parser_next k s4.1) fun y14 => bi (m_posture_parser_and (m_posture_parser_cond k) k y14) fun y16 => bi (apd s4.2 [y16.1]) fun y18 => some (.go (y16.2, y18))) else (some (.out (s4.1, s4.2)))) k (y1.2, [y1.1])) fun q6 => bi (m_posture_joined 4 q6.2) fun y21 => some (y21, q6.1)

def m_posture_size : Nat → T_api_Cond → Option (Int × Int)
  | 0, _ => none
  | k + 1, c => bi (bif (c.Kind : Int) == 1 then (some 1) else (some 0)) fun q1 => bi (unK d_api_Cond 11 c.Kids) fun l5 => bi (rangeF (σ := Int × Int) (fun i7 x9 s8 => bi (m_posture_size k x9) fun y18 => some (wi (s8.1 + y18.1), (if y18.2 > s8.2 then y18.2 else s8.2))) 0 l5 (q1, 0)) fun q10 => some (q10.1, wi (q10.2 + 1))

def m_kit_Outside (n : Int) (low : Int) (high : Int) : Option Bool :=
  some ((decide ((n : Int) < low)) || (decide ((n : Int) > high)))

def m_posture_nodeForm_1 (v_k : T_api_Cond) (x : T_api_Cond) : Option Bool :=
  some ((v_k.Kind : Int) == x.Kind)

def m_slices_IndexFunc_api_Cond_api_Cond (s : List T_api_Cond) (f : T_api_Cond) : Option Int :=
  bi (rangeM (σ := Unit) (ρ := Int) (fun i1 x3 s2 => bi (m_posture_nodeForm_1 x3 f) fun y12 => bif y12 then (bi (some (i1 : Int)) fun v => some (.out v)) else (some (.go ()))) 0 s ()) fun q => goI q fun a6 => some (-1)

def m_slices_ContainsFunc_api_Cond_api_Cond (s : List T_api_Cond) (f : T_api_Cond) : Option Bool :=
  bi (m_slices_IndexFunc_api_Cond_api_Cond s f) fun y1 => some (decide ((y1 : Int) ≥ 0))

def m_posture_nodeForm (c : T_api_Cond) : Option Bool :=
  bi (unK d_api_Cond 11 c.Kids) fun l1 => bi (bif (c.Kind : Int) == 1 then (bi (some (((l1.length : Int) : Int) == 0)) fun v => some (.inr v)) else (bif (c.Kind : Int) == 2 then (bif ((l1.length : Int) : Int) != 1 then (bi (some false) fun v => some (.inr v)) else (some (.inl ()))) else (bi (bif decide (((l1.length : Int) : Int) < 2) then (some true) else (bi (unK d_api_Cond 11 c.Kids) fun l20 => bi (m_slices_ContainsFunc_api_Cond_api_Cond l20 c) fun y22 => some y22)) fun q16 => bif q16 then (bi (some false) fun v => some (.inr v)) else (some (.inl ())))) : Option (Unit ⊕ Bool)) fun q => orI q fun a5 => some ((((c.Name : Str) == []) && ((c.Op : Str) == [])) && (((c.Value.Kind : Int) == 0) && (((c.Value.Number : Int) == 0) && (((c.Value.Words : Str) == []) && (decide (([c.Value.Version.1, c.Value.Version.2.1, c.Value.Version.2.2.1, c.Value.Version.2.2.2] : List Int) = [0, 0, 0, 0]) && true)))))

def m_kit_IsKey (k : Nat) (s : Str) : Option Bool :=
  bi (loopM (σ := Int) (ρ := Unit ⊕ Bool) (fun s2 => bif decide ((s2 : Int) < (s.length : Int)) then (bi (getZ s s2) fun c12 => bif !(((decide (((c12.toNat : Int) : Int) ≥ 97)) && (decide (((c12.toNat : Int) : Int) ≤ 122))) || ((decide ((s2 : Int) > 0)) && ((((decide (((c12.toNat : Int) : Int) ≥ 48)) && (decide (((c12.toNat : Int) : Int) ≤ 57))) || (((c12.toNat : Int) : Int) == 45)) || (((c12.toNat : Int) : Int) == 95)))) then (bi (some false) fun v => some (.out (.inr v))) else (some (.go (wi (s2 + 1))))) else (some (.out (.inl ())))) k 0) fun q => orI q fun a6 => some ((!((s : Str) == [])) && (decide (((s.length : Int) : Int) ≤ 40)))

def m_posture_isWords (s : Str) : Option Bool :=
  bi (gd (decide ((s.length : Int) ≤ 9223372036854775807)) (rangeI (σ := Unit) (ρ := Bool) (fun i1 s2 => bi (getZ s (i1 : Int)) fun c13 => bi (bif decide (((c13.toNat : Int) : Int) < 32) then (some true) else (bi (getZ s (i1 : Int)) fun c19 => some (decide (((c19.toNat : Int) : Int) > 126)))) fun q15 => bif q15 then (bi (some false) fun v => some (.out v)) else (some (.go ()))) (s.length : Int) ())) fun q => goI q fun a6 => some (decide (((s.length : Int) : Int) ≤ 100))

def m_posture_attrFault (k : Nat) (a : T_api_Attr) : Option Int :=
  bi (m_kit_Outside a.Kind 1 4) fun y1 => bif y1 then (some 4) else (bi (bif (a.Kind : Int) == 1 then (bi (m_kit_Outside a.Number (-100000000) 100000000) fun y8 => some y8) else (some false)) fun q5 => bi (bif q5 then (some true) else (bi (bif (a.Kind : Int) == 3 then (bi (m_kit_Outside a.Number 0 1) fun y18 => some y18) else (some false)) fun q15 => some q15)) fun q11 => bif q11 then (some 1) else (bif ((((a.Kind : Int) != 1) && ((a.Kind : Int) != 3)) && ((a.Number : Int) != 0)) then (some 3) else (bi (bif (a.Kind : Int) == 2 then (bi (m_posture_isWords a.Words) fun y28 => some (!y28)) else (some false)) fun q25 => bif (q25 || (((a.Kind : Int) != 2) && (!((a.Words : Str) == [])))) then (some 3) else (bi (loopM (σ := Int) (ρ := Unit ⊕ Int) (fun s34 => bif decide ((s34 : Int) < 4) then (bi (getZ ([a.Version.1, a.Version.2.1, a.Version.2.2.1, a.Version.2.2.2] : List Int) s34) fun x44 => bi (bif (a.Kind : Int) == 4 then (bi (m_kit_Outside x44 0 1000000) fun y49 => some y49) else (some false)) fun q46 => bif q46 then (bi (some 1) fun v => some (.out (.inr v))) else (bif (((a.Kind : Int) != 4) && ((x44 : Int) != 0)) then (bi (some 3) fun v => some (.out (.inr v))) else (some (.go (wi (s34 + 1)))))) else (some (.out (.inl ())))) k 0) fun q => orI q fun a38 => some 0))))

def m_posture_condFault : Nat → T_api_Cond → Option Int
  | 0, _ => none
  | k + 1, c => bi (m_kit_Outside c.Kind 1 4) fun y1 => bif y1 then (some 4) else (bi (m_posture_nodeForm c) fun y5 => bif !y5 then (some 3) else (bi (bif (c.Kind : Int) == 1 then (bi (m_kit_IsKey k c.Name) fun y13 => bi (bif (((!y13) || ((c.Name : Str) == [116, 114, 117, 101])) || ((c.Name : Str) == [102, 97, 108, 115, 101])) then (some true) else (bi (m_posture_isVersion c.Name) fun y19 => some y19)) fun q15 => bif q15 then (bi (some 5) fun v => some (.inr v)) else (bi (m_posture_isOp c.Op) fun y25 => bif !y25 then (bi (some 10) fun v => some (.inr v)) else (bi (m_posture_attrFault k c.Value) fun y31 => bif (y31 : Int) != 0 then (bi (some y31) fun v => some (.inr v)) else (bif ((((c.Value.Kind : Int) == 3) && (!((c.Op : Str) == [61, 61]))) && (!((c.Op : Str) == [33, 61]))) then (bi (some 10) fun v => some (.inr v)) else (some (.inl ())))))) else (some (.inl ())) : Option (Unit ⊕ Int)) fun q => orI q fun a11 => bi (unK d_api_Cond 11 c.Kids) fun l42 => bi (rangeM (σ := Unit) (ρ := Int) (fun i44 x46 s45 => bi (m_posture_condFault k x46) fun y55 => bif (y55 : Int) != 0 then (bi (some y55) fun v => some (.out v)) else (some (.go ()))) 0 l42 ()) fun q => goI q fun a49 => some 0))

def m_posture_CheckCond (k : Nat) (c : T_api_Cond) : Option Int :=
  bi (m_posture_size k c) fun y1 => bif ((decide ((y1.1 : Int) > 100)) || (decide ((y1.2 : Int) > 30))) then (some 2) else (bi (m_posture_condFault k c) fun y5 => some y5)

def m_posture_Parse (k : Nat) (text : Str) : Option (T_api_Cond × Int × Int) :=
  bif decide (((text.length : Int) : Int) > 5000) then (some ((⟨0, [], [], (⟨0, 0, [], (0, 0, 0, 0)⟩ : T_api_Attr), (KD.mk 0 [])⟩ : T_api_Cond), 0, 2)) else (bi (m_posture_parser_next k (⟨text, (⟨[], 0, 0, [], (⟨0, 0, [], (0, 0, 0, 0)⟩ : T_api_Attr)⟩ : T_posture_token), false, 0⟩ : T_posture_parser)) fun y3 => bi (m_posture_parser_cond k y3) fun y5 => bi (bif ((!y5.2.bad) && (!((y5.2.tok.kind : Str) == [101, 110, 100]))) then (bi (m_posture_parser_fail y5.2) fun y10 => some y10.2) else (some y5.2)) fun q7 => bif q7.bad then (some ((⟨0, [], [], (⟨0, 0, [], (0, 0, 0, 0)⟩ : T_api_Attr), (KD.mk 0 [])⟩ : T_api_Cond), q7.v_at, 9)) else (bi (m_posture_CheckCond k y5.1) fun y15 => bif (y15 : Int) != 0 then (some ((⟨0, [], [], (⟨0, 0, [], (0, 0, 0, 0)⟩ : T_api_Attr), (KD.mk 0 [])⟩ : T_api_Cond), 0, y15)) else (some (y5.1, 0, 0))))

def m_laneref1_span (s : Str) (v_some : Str) : Option Int :=
  bi (m_strings_TrimLeft s v_some) fun y1 => some (wi ((s.length : Int) - (y1.length : Int)))

def m_laneref1_in (n : Int) (low : Int) (high : Int) : Option Bool :=
  some ((decide ((low : Int) ≤ n)) && (decide ((n : Int) ≤ high)))

def m_laneref1_quotedWords (k : Nat) (s : Str) : Option (Str × Int) :=
  bi (loopM (σ := Str × Int) (ρ := Unit ⊕ (Str × Int)) (fun s2 => bif decide ((s2.2 : Int) < (s.length : Int)) then (bi (getZ s s2.2) fun c12 => bif ((c12.toNat : Int) : Int) == 34 then (bi (some (s2.1, wi (s2.2 + 1))) fun v => some (.out (.inr v))) else (bif ((c12.toNat : Int) : Int) == 92 then (bi (bif decide ((wi (s2.2 + 1) : Int) ≥ (s.length : Int)) then (some true) else (bi (getZ s (wi (s2.2 + 1))) fun c23 => bi (bif ((c23.toNat : Int) : Int) != 34 then (bi (getZ s (wi (s2.2 + 1))) fun c28 => some (((c28.toNat : Int) : Int) != 92)) else (some false)) fun q25 => some q25)) fun q19 => bif q19 then (bi (some ([], 0)) fun v => some (.out (.inr v))) else (bi (subZ s (wi (s2.2 + 1)) (wi ((wi (s2.2 + 1)) + 1))) fun z35 => bi (catZ s2.1 z35) fun y37 => some (.go (y37, wi ((wi (s2.2 + 1)) + 1))))) else (bi (m_laneref1_in (wi ((c12.toNat : Int))) 32 126) fun y40 => bif !y40 then (bi (some ([], 0)) fun v => some (.out (.inr v))) else (bi (subZ s s2.2 (wi (s2.2 + 1))) fun z46 => bi (catZ s2.1 z46) fun y48 => some (.go (y48, wi (s2.2 + 1))))))) else (some (.out (.inl ())))) k ([], 1)) fun q => orI q fun a6 => some ([], 0)

def m_laneref1_digit (s : Str) (i : Int) : Option Bool :=
  bi (bif decide ((i : Int) < (s.length : Int)) then (bi (getZ s i) fun c4 => bi (m_strings_IndexByte [48, 49, 50, 51, 52, 53, 54, 55, 56, 57] (c4.toNat : Int)) fun y6 => some (decide ((y6 : Int) ≥ 0))) else (some false)) fun q1 => some q1

def m_laneref2_only (s : Str) (v_some : Str) : Option Bool :=
  bi (m_strings_Trim s v_some) fun y1 => some ((y1 : Str) == [])

def m_laneref2_Number (s : Str) (most : Int) : Option (Int × Bool) :=
  bi (m_strings_TrimPrefix s [45]) fun y1 => bi (bif (((y1 : Str) == []) || (decide (((y1.length : Int) : Int) > most))) then (some true) else (bi (m_laneref2_only y1 [48, 49, 50, 51, 52, 53, 54, 55, 56, 57]) fun y7 => some (!y7))) fun q3 => bif q3 then (some (0, false)) else (bi (m_strconv_Atoi s) fun y11 => bi (m_strconv_Itoa y11) fun y13 => some (y11, (y13 : Str) == s))

def m_laneref1_versionFrom (s : Str) : Option (T_api_Attr × Int) :=
  bi (subZ s 1 (s.length : Int)) fun z1 => bi (m_laneref1_span z1 [48, 49, 50, 51, 52, 53, 54, 55, 56, 57, 46]) fun y3 => bi (subZ s 1 (wi (1 + y3))) fun z5 => bi (m_strings_Split z5 [46]) fun y7 => bif decide (((y7.length : Int) : Int) > 4) then (some ((⟨0, 0, [], (0, 0, 0, 0)⟩ : T_api_Attr), 0)) else (bi (rangeM (σ := T_api_Attr) (ρ := T_api_Attr × Int) (fun i11 x13 s12 => bi (m_laneref2_Number x13 9) fun y22 => bif !y22.2 then (bi (some ((⟨0, 0, [], (0, 0, 0, 0)⟩ : T_api_Attr), 0)) fun v => some (.out v)) else (bi (getZ ([s12.Version.1, s12.Version.2.1, s12.Version.2.2.1, s12.Version.2.2.2] : List Int) (i11 : Int)) fun x28 => some (.go (⟨s12.Kind, s12.Number, s12.Words, (updA (i11 : Int) 0 y22.1 s12.Version.1, updA (i11 : Int) 1 y22.1 s12.Version.2.1, updA (i11 : Int) 2 y22.1 s12.Version.2.2.1, updA (i11 : Int) 3 y22.1 s12.Version.2.2.2)⟩ : T_api_Attr)))) 0 y7 (⟨4, 0, [], (0, 0, 0, 0)⟩ : T_api_Attr)) fun q => goI q fun a16 => some (a16, wi (1 + y3)))

def m_laneref1_condReader_scan (k : Nat) (v_r : T_laneref1_condReader) : Option T_laneref1_condReader :=
  bi (subZ v_r.s v_r.v_at (v_r.s.length : Int)) fun z1 => bi (m_laneref1_span z1 [32, 10]) fun y3 => bi (subZ v_r.s (wi (v_r.v_at + y3)) (v_r.s.length : Int)) fun z5 => bi (rangeM (σ := Unit) (ρ := Str × Int) (fun i7 x9 s8 => bi (m_strings_HasPrefix z5 x9) fun y20 => bif y20 then (some (.out (x9, (x9.length : Int)))) else (some (.go ()))) 0 [[61, 61], [33, 61], [60, 61], [62, 61], [38, 38], [124, 124], [60], [62], [33], [40], [41]] ()) fun q => bi (lsN q fun s8 => ([], 0)) fun q14 => bi (bif ((decide ((q14.2 : Int) > 0)) || ((z5 : Str) == [])) then (some ((⟨q14.1, wi (v_r.v_at + y3), [], (⟨0, 0, [], (0, 0, 0, 0)⟩ : T_api_Attr)⟩ : T_laneref1_token), q14.2)) else (bi (getZ z5 0) fun c28 => bif ((c28.toNat : Int) : Int) == 34 then (bi (m_laneref1_quotedWords k z5) fun y31 => bif decide ((y31.2 : Int) > 0) then (some ((⟨[118], wi (v_r.v_at + y3), [], (⟨2, 0, y31.1, (0, 0, 0, 0)⟩ : T_api_Attr)⟩ : T_laneref1_token), y31.2)) else (some ((⟨q14.1, wi (v_r.v_at + y3), [], (⟨2, 0, y31.1, (0, 0, 0, 0)⟩ : T_api_Attr)⟩ : T_laneref1_token), y31.2))) else (bi (m_laneref1_digit z5 0) fun y36 => bi (bif y36 then (some true) else (bi (getZ z5 0) fun c42 => bi (bif ((c42.toNat : Int) : Int) == 45 then (bi (m_laneref1_digit z5 1) fun y47 => some y47) else (some false)) fun q44 => some q44)) fun q38 => bif q38 then (bi (subZ z5 1 (z5.length : Int)) fun z51 => bi (m_laneref1_span z51 [48, 49, 50, 51, 52, 53, 54, 55, 56, 57]) fun y53 => bi (subZ z5 0 (wi (1 + y53))) fun z55 => bi (m_laneref2_Number z55 9) fun y57 => bif y57.2 then (some ((⟨[118], wi (v_r.v_at + y3), [], (⟨1, y57.1, [], (0, 0, 0, 0)⟩ : T_api_Attr)⟩ : T_laneref1_token), wi (1 + y53))) else (some ((⟨q14.1, wi (v_r.v_at + y3), [], (⟨0, 0, [], (0, 0, 0, 0)⟩ : T_api_Attr)⟩ : T_laneref1_token), wi (1 + y53)))) else (bi (getZ z5 0) fun c62 => bi (bif ((c62.toNat : Int) : Int) == 118 then (bi (m_laneref1_digit z5 1) fun y67 => some y67) else (some false)) fun q64 => bif q64 then (bi (m_laneref1_versionFrom z5) fun y71 => bif decide ((y71.2 : Int) > 0) then (some ((⟨[118], wi (v_r.v_at + y3), [], y71.1⟩ : T_laneref1_token), y71.2)) else (some ((⟨q14.1, wi (v_r.v_at + y3), [], y71.1⟩ : T_laneref1_token), y71.2))) else (bi (getZ z5 0) fun c76 => bi (bif decide (((c76.toNat : Int) : Int) ≥ 97) then (bi (getZ z5 0) fun c81 => some (decide (((c81.toNat : Int) : Int) ≤ 122))) else (some false)) fun q78 => bif q78 then (bi (m_laneref1_span z5 [97, 98, 99, 100, 101, 102, 103, 104, 105, 106, 107, 108, 109, 110, 111, 112, 113, 114, 115, 116, 117, 118, 119, 120, 121, 122, 45, 95, 48, 49, 50, 51, 52, 53, 54, 55, 56, 57]) fun y85 => bi (subZ z5 0 y85) fun z87 => bi (m_slices_Index_string_string [[102, 97, 108, 115, 101], [116, 114, 117, 101]] z87) fun y89 => bif decide ((y89 : Int) ≥ 0) then (some ((⟨[102], wi (v_r.v_at + y3), z87, (⟨3, y89, [], (0, 0, 0, 0)⟩ : T_api_Attr)⟩ : T_laneref1_token), y85)) else (some ((⟨[110], wi (v_r.v_at + y3), z87, (⟨0, 0, [], (0, 0, 0, 0)⟩ : T_api_Attr)⟩ : T_laneref1_token), y85))) else (some ((⟨q14.1, wi (v_r.v_at + y3), [], (⟨0, 0, [], (0, 0, 0, 0)⟩ : T_api_Attr)⟩ : T_laneref1_token), q14.2))))))) fun q24 => some (⟨v_r.s, wi ((wi (v_r.v_at + y3)) + q24.2), q24.1, v_r.fault⟩ : T_laneref1_condReader)

def m_laneref1_condReader_wrong (v_r : T_laneref1_condReader) : Option (T_api_Cond × T_laneref1_condReader) :=
  bi (bif decide ((v_r.fault : Int) < 0) then (some v_r.v_next.v_at) else (some v_r.fault)) fun q1 => some ((⟨0, [], [], (⟨0, 0, [], (0, 0, 0, 0)⟩ : T_api_Attr), (KD.mk 0 [])⟩ : T_api_Cond), (⟨v_r.s, v_r.v_at, v_r.v_next, q1⟩ : T_laneref1_condReader))

def m_laneref1_condReader_part (rc_laneref1_condReader_cond : T_laneref1_condReader → Option (T_api_Cond × T_laneref1_condReader)) : Nat → T_laneref1_condReader → Option (T_api_Cond × T_laneref1_condReader)
  | 0, _ => none
  | k + 1, v_r => bif (v_r.v_next.kind : Str) == [33] then (bi (m_laneref1_condReader_scan k v_r) fun y2 => bi (m_laneref1_condReader_part rc_laneref1_condReader_cond k y2) fun y4 => some ((⟨2, [], [], (⟨0, 0, [], (0, 0, 0, 0)⟩ : T_api_Attr), (pk e_api_Cond [y4.1])⟩ : T_api_Cond), y4.2)) else (bif (v_r.v_next.kind : Str) == [40] then (bi (m_laneref1_condReader_scan k v_r) fun y8 => bi (rc_laneref1_condReader_cond y8) fun y10 => bif ((decide ((y10.2.fault : Int) ≥ 0)) || (!((y10.2.v_next.kind : Str) == [41]))) then (bi (m_laneref1_condReader_wrong y10.2) fun y13 => some (y13.1, y13.2)) else (bi (m_laneref1_condReader_scan k y10.2) fun y16 => some (y10.1, y16))) else (bif (v_r.v_next.kind : Str) == [110] then (bi (m_laneref1_condReader_scan k v_r) fun y20 => bi m_laneref1_Ops fun y22 => bi (m_slices_Contains_string_string y22 y20.v_next.kind) fun y24 => bif !y24 then (some ((⟨1, v_r.v_next.name, [61, 61], (⟨3, 1, [], (0, 0, 0, 0)⟩ : T_api_Attr), (KD.mk 0 [])⟩ : T_api_Cond), y20)) else (bi (m_laneref1_condReader_scan k y20) fun y28 => bif ((!((y28.v_next.kind : Str) == [118])) && (!((y28.v_next.kind : Str) == [102]))) then (bi (m_laneref1_condReader_wrong y28) fun y31 => some (y31.1, y31.2)) else (bi (m_laneref1_condReader_scan k y28) fun y34 => some ((⟨1, v_r.v_next.name, y20.v_next.kind, y28.v_next.value, (KD.mk 0 [])⟩ : T_api_Cond), y34)))) else (bi (m_laneref1_condReader_wrong v_r) fun y37 => some (y37.1, y37.2))))

def m_laneref1_condReader_list_2 (rc_laneref1_condReader_cond : T_laneref1_condReader → Option (T_api_Cond × T_laneref1_condReader)) (k : Nat) (v_r : T_laneref1_condReader) (sign : Str) (kind : Int) : Option (T_api_Cond × T_laneref1_condReader) :=
  bi (m_laneref1_condReader_part rc_laneref1_condReader_cond k v_r) fun y1 => bi (loopM (σ := T_laneref1_condReader × (List T_api_Cond)) (ρ := T_laneref1_condReader × (List T_api_Cond)) (fun s4 => bif ((decide ((s4.1.fault : Int) < 0)) && ((s4.1.v_next.kind : Str) == sign)) then (bi (m_laneref1_condReader_scan k s4.1) fun y14 => bi (m_laneref1_condReader_part rc_laneref1_condReader_cond k y14) fun y16 => bi (apd s4.2 [y16.1]) fun y18 => some (.go (y16.2, y18))) else (some (.out (s4.1, s4.2)))) k (y1.2, [y1.1])) fun q6 => bif ((q6.2.length : Int) : Int) == 1 then (bi (getZ q6.2 0) fun x22 => some (x22, q6.1)) else (bi (gd (decide ((q6.2.length : Int) ≤ 9223372036854775807)) (rangeG (σ := List T_api_Cond) (fun i26 s27 => bi (getZ q6.2 (i26 : Int)) fun x38 => bif (x38.Kind : Int) == kind then (bi (unK d_api_Cond 11 x38.Kids) fun l42 => bi (apd s27 l42) fun y44 => some y44) else (bi (apd s27 [x38]) fun y47 => some y47)) (q6.2.length : Int) ([] : List T_api_Cond))) fun q29 => some ((⟨kind, [], [], (⟨0, 0, [], (0, 0, 0, 0)⟩ : T_api_Attr), (pk e_api_Cond q29)⟩ : T_api_Cond), q6.1))

def m_laneref1_condReader_cond_1 (rc_laneref1_condReader_cond : T_laneref1_condReader → Option (T_api_Cond × T_laneref1_condReader)) (k : Nat) (x : T_laneref1_condReader) : Option (T_api_Cond × T_laneref1_condReader) :=
  bi (m_laneref1_condReader_list_2 rc_laneref1_condReader_cond k x [38, 38] 3) fun y1 => some (y1.1, y1.2)

def m_laneref1_condReader_list (rc_laneref1_condReader_cond : T_laneref1_condReader → Option (T_api_Cond × T_laneref1_condReader)) (k : Nat) (v_r : T_laneref1_condReader) (sign : Str) (kind : Int) : Option (T_api_Cond × T_laneref1_condReader) :=
  bi (m_laneref1_condReader_cond_1 rc_laneref1_condReader_cond k v_r) fun y1 => bi (loopM (σ := T_laneref1_condReader × (List T_api_Cond)) (ρ := T_laneref1_condReader × (List T_api_Cond)) (fun s4 => bif ((decide ((s4.1.fault : Int) < 0)) && ((s4.1.v_next.kind : Str) == sign)) then (bi (m_laneref1_condReader_scan k s4.1) fun y14 => bi (m_laneref1_condReader_cond_1 rc_laneref1_condReader_cond k y14) fun y16 => bi (apd s4.2 [y16.1]) fun y18 => some (.go (y16.2, y18))) else (some (.out (s4.1, s4.2)))) k (y1.2, [y1.1])) fun q6 => bif ((q6.2.length : Int) : Int) == 1 then (bi (getZ q6.2 0) fun x22 => some (x22, q6.1)) else (bi (gd (decide ((q6.2.length : Int) ≤ 9223372036854775807)) (rangeG (σ := List T_api_Cond) (fun i26 s27 => bi (getZ q6.2 (i26 : Int)) fun x38 => bif (x38.Kind : Int) == kind then (bi (unK d_api_Cond 11 x38.Kids) fun l42 => bi (apd s27 l42) fun y44 => some y44) else (bi (apd s27 [x38]) fun y47 => some y47)) (q6.2.length : Int) ([] : List T_api_Cond))) fun q29 => some ((⟨kind, [], [], (⟨0, 0, [], (0, 0, 0, 0)⟩ : T_api_Attr), (pk e_api_Cond q29)⟩ : T_api_Cond), q6.1))

def m_laneref1_condReader_cond : Nat → T_laneref1_condReader → Option (T_api_Cond × T_laneref1_condReader)
  | 0, _ => none
  | k + 1, v_r => bi (m_laneref1_condReader_list (m_laneref1_condReader_cond k) k v_r [124, 124] 4) fun y1 => some (y1.1, y1.2)

def m_laneref1_leaves : Nat → T_api_Cond → Option Int
  | 0, _ => none
  | k + 1, c => bi (bif (c.Kind : Int) == 1 then (some 1) else (some 0)) fun q1 => bi (unK d_api_Cond 11 c.Kids) fun l5 => bi (rangeF (σ := Int) (fun i7 x9 s8 => bi (m_laneref1_leaves k x9) fun y18 => some (wi (s8 + y18))) 0 l5 q1) fun q10 => some q10

def m_laneref1_deep : Nat → T_api_Cond → Option Int
  | 0, _ => none
  | k + 1, c => bi (unK d_api_Cond 11 c.Kids) fun l1 => bi (rangeF (σ := Int) (fun i3 x5 s4 => bi (m_laneref1_deep k x5) fun y14 => some (if y14 > s4 then y14 else s4)) 0 l1 0) fun q6 => some (wi (q6 + 1))

def m_laneref1_oneFault_1 (v_k : T_api_Cond) (x : T_api_Cond) : Option Bool :=
  some ((v_k.Kind : Int) == x.Kind)

def m_slices_IndexFunc_api_Cond_api_Cond_2 (s : List T_api_Cond) (f : T_api_Cond) : Option Int :=
  bi (rangeM (σ := Unit) (ρ := Int) (fun i1 x3 s2 => bi (m_laneref1_oneFault_1 x3 f) fun y12 => bif y12 then (bi (some (i1 : Int)) fun v => some (.out v)) else (some (.go ()))) 0 s ()) fun q => goI q fun a6 => some (-1)

def m_slices_ContainsFunc_api_Cond_api_Cond_2 (s : List T_api_Cond) (f : T_api_Cond) : Option Bool :=
  bi (m_slices_IndexFunc_api_Cond_api_Cond_2 s f) fun y1 => some (decide ((y1 : Int) ≥ 0))

def m_laneref2_in (n : Int) (low : Int) (high : Int) : Option Bool :=
  some ((decide ((low : Int) ≤ n)) && (decide ((n : Int) ≤ high)))

def m_laneref2_Key (s : Str) : Option Bool :=
  bi (m_laneref2_in (s.length : Int) 1 40) fun y1 => bi (bif y1 then (bi (subZ s 0 1) fun z6 => bi (m_laneref2_only z6 [97, 98, 99, 100, 101, 102, 103, 104, 105, 106, 107, 108, 109, 110, 111, 112, 113, 114, 115, 116, 117, 118, 119, 120, 121, 122]) fun y8 => some y8) else (some false)) fun q3 => bi (bif q3 then (bi (m_laneref2_only s [97, 98, 99, 100, 101, 102, 103, 104, 105, 106, 107, 108, 109, 110, 111, 112, 113, 114, 115, 116, 117, 118, 119, 120, 121, 122, 48, 49, 50, 51, 52, 53, 54, 55, 56, 57, 45, 95]) fun y14 => some y14) else (some false)) fun q11 => some q11

def m_laneref1_attrName (s : Str) : Option Bool :=
  bi (m_laneref2_Key s) fun y1 => bi (bif ((y1 && (!((s : Str) == [116, 114, 117, 101]))) && (!((s : Str) == [102, 97, 108, 115, 101]))) then (bi (getZ s 0) fun c6 => bi (bif ((((c6.toNat : Int) : Int) == 118) && (decide (((s.length : Int) : Int) > 1))) then (bi (getZ s 1) fun c11 => some (decide (((c11.toNat : Int) : Int) ≥ 48))) else (some false)) fun q8 => bi (bif q8 then (bi (getZ s 1) fun c17 => some (decide (((c17.toNat : Int) : Int) ≤ 57))) else (some false)) fun q14 => some (!q14)) else (some false)) fun q3 => some q3

def m_laneref1_AttrFault (k : Nat) (a : T_api_Attr) : Option Int :=
  bi (m_laneref1_in a.Kind 1 4) fun y1 => bif !y1 then (some 4) else (bi (bif (a.Kind : Int) == 1 then (bi (m_laneref1_in a.Number (-100000000) 100000000) fun y8 => some (!y8)) else (some false)) fun q5 => bi (bif q5 then (some true) else (bi (bif (a.Kind : Int) == 3 then (bi (m_laneref1_in a.Number 0 1) fun y18 => some (!y18)) else (some false)) fun q15 => some q15)) fun q11 => bif q11 then (some 1) else (bif ((((a.Kind : Int) != 1) && ((a.Kind : Int) != 3)) && ((a.Number : Int) != 0)) then (some 3) else (bif ((((a.Kind : Int) != 2) && (!((a.Words : Str) == []))) || (decide (((a.Words.length : Int) : Int) > 100))) then (some 3) else (bi (gd (decide ((a.Words.length : Int) ≤ 9223372036854775807)) (rangeI (σ := Unit) (ρ := Int) (fun i27 s28 => bi (getZ a.Words (i27 : Int)) fun c39 => bi (m_laneref1_in (wi ((c39.toNat : Int))) 32 126) fun y41 => bif !y41 then (bi (some 3) fun v => some (.out v)) else (some (.go ()))) (a.Words.length : Int) ())) fun q => goI q fun a32 => bi (loopM (σ := Int) (ρ := Unit ⊕ Int) (fun s48 => bif decide ((s48 : Int) < 4) then (bi (getZ ([a.Version.1, a.Version.2.1, a.Version.2.2.1, a.Version.2.2.2] : List Int) s48) fun x58 => bi (bif (a.Kind : Int) == 4 then (bi (m_laneref1_in x58 0 1000000) fun y63 => some (!y63)) else (some false)) fun q60 => bif q60 then (bi (some 1) fun v => some (.out (.inr v))) else (some (.go (wi (s48 + 1))))) else (some (.out (.inl ())))) k 0) fun q => orI q fun a52 => bif (((a.Kind : Int) != 4) && (!decide (([a.Version.1, a.Version.2.1, a.Version.2.2.1, a.Version.2.2.2] : List Int) = ([0, 0, 0, 0] : List Int)))) then (some 3) else (some 0)))))

def m_laneref1_oneFault (k : Nat) (c : T_api_Cond) : Option Int :=
  bi (m_laneref1_in c.Kind 1 4) fun y1 => bif !y1 then (some 4) else (bi (bif (c.Kind : Int) == 1 then (bi (unK d_api_Cond 11 c.Kids) fun l8 => some (decide (((l8.length : Int) : Int) > 0))) else (some false)) fun q5 => bi (bif q5 then (some true) else (bi (bif (c.Kind : Int) == 2 then (bi (unK d_api_Cond 11 c.Kids) fun l18 => some (((l18.length : Int) : Int) != 1)) else (some false)) fun q15 => some q15)) fun q11 => bi (bif q11 then (some true) else (bi (bif ((!((c.Kind : Int) == 1)) && ((c.Kind : Int) != 2)) then (bi (unK d_api_Cond 11 c.Kids) fun l28 => some (decide (((l28.length : Int) : Int) < 2))) else (some false)) fun q25 => some q25)) fun q21 => bif q21 then (some 3) else (bif ((!((c.Kind : Int) == 1)) && (((!((c.Name : Str) == [])) || (!((c.Op : Str) == []))) || (!(((c.Value.Kind : Int) == 0) && (((c.Value.Number : Int) == 0) && (((c.Value.Words : Str) == []) && (decide (([c.Value.Version.1, c.Value.Version.2.1, c.Value.Version.2.2.1, c.Value.Version.2.2.2] : List Int) = [0, 0, 0, 0]) && true))))))) then (some 3) else (bi (bif (((c.Kind : Int) == 3) || ((c.Kind : Int) == 4)) then (bi (unK d_api_Cond 11 c.Kids) fun l38 => bi (m_slices_ContainsFunc_api_Cond_api_Cond_2 l38 c) fun y40 => some y40) else (some false)) fun q35 => bif q35 then (some 3) else (bif !((c.Kind : Int) == 1) then (some 0) else (bi (m_laneref1_attrName c.Name) fun y47 => bif !y47 then (some 5) else (bi m_laneref1_Ops fun y51 => bi (m_slices_Contains_string_string y51 c.Op) fun y53 => bif !y53 then (some 10) else (bi (m_laneref1_AttrFault k c.Value) fun y57 => bif (y57 : Int) != 0 then (some y57) else (bif ((((c.Value.Kind : Int) == 3) && (!((c.Op : Str) == [61, 61]))) && (!((c.Op : Str) == [33, 61]))) then (some 10) else (some 0)))))))))

def m_laneref1_partsFault : Nat → T_api_Cond → Option Int
  | 0, _ => none
  | k + 1, c => bi (m_laneref1_oneFault k c) fun y1 => bif (y1 : Int) != 0 then (some y1) else (bi (unK d_api_Cond 11 c.Kids) fun l5 => bi (rangeM (σ := Unit) (ρ := Int) (fun i7 x9 s8 => bi (m_laneref1_partsFault k x9) fun y18 => bif (y18 : Int) != 0 then (bi (some y18) fun v => some (.out v)) else (some (.go ()))) 0 l5 ()) fun q => goI q fun a12 => some 0)

def m_laneref1_CondFault (k : Nat) (c : T_api_Cond) : Option Int :=
  bi (m_laneref1_leaves k c) fun y1 => bi (bif decide ((y1 : Int) > 100) then (some true) else (bi (m_laneref1_deep k c) fun y7 => some (decide ((y7 : Int) > 30)))) fun q3 => bif q3 then (some 2) else (bi (m_laneref1_partsFault k c) fun y11 => some y11)

def m_laneref1_CondParse (k : Nat) (text : Str) : Option (T_api_Cond × Int × Int) :=
  bif decide (((text.length : Int) : Int) > 5000) then (some ((⟨0, [], [], (⟨0, 0, [], (0, 0, 0, 0)⟩ : T_api_Attr), (KD.mk 0 [])⟩ : T_api_Cond), 0, 2)) else (bi (m_laneref1_condReader_scan k (⟨text, 0, (⟨[], 0, [], (⟨0, 0, [], (0, 0, 0, 0)⟩ : T_api_Attr)⟩ : T_laneref1_token), -1⟩ : T_laneref1_condReader)) fun y3 => bi (m_laneref1_condReader_cond k y3) fun y5 => bi (bif ((decide ((y5.2.fault : Int) < 0)) && ((!((y5.2.v_next.kind : Str) == [])) || (decide ((y5.2.v_next.v_at : Int) < (text.length : Int))))) then (bi (m_laneref1_condReader_wrong y5.2) fun y10 => some y10.2) else (some y5.2)) fun q7 => bif decide ((q7.fault : Int) ≥ 0) then (some ((⟨0, [], [], (⟨0, 0, [], (0, 0, 0, 0)⟩ : T_api_Attr), (KD.mk 0 [])⟩ : T_api_Cond), q7.fault, 9)) else (bi (m_laneref1_CondFault k y5.1) fun y15 => bif (y15 : Int) != 0 then (some ((⟨0, [], [], (⟨0, 0, [], (0, 0, 0, 0)⟩ : T_api_Attr), (KD.mk 0 [])⟩ : T_api_Cond), 0, y15)) else (some (y5.1, 0, 0))))

def m_slices_EqualFunc_api_Cond_api_Cond_api_Cond_api_Cond (rc_laneref1_SameCond : T_api_Cond → T_api_Cond → Option Bool) (s1 : List T_api_Cond) (s2 : List T_api_Cond) : Option Bool :=
  bif ((s1.length : Int) : Int) != (s2.length : Int) then (some false) else (bi (rangeM (σ := Unit) (ρ := Bool) (fun i3 x5 s4 => bi (getZ s2 (i3 : Int)) fun x14 => bi (rc_laneref1_SameCond x5 x14) fun y16 => bif !y16 then (bi (some false) fun v => some (.out v)) else (some (.go ()))) 0 s1 ()) fun q => goI q fun a8 => some true)

def m_laneref1_SameCond : Nat → T_api_Cond → T_api_Cond → Option Bool
  | 0, _, _ => none
  | k + 1, a, b => bi (bif (((((a.Kind : Int) == b.Kind) && ((a.Name : Str) == b.Name)) && ((a.Op : Str) == b.Op)) && (((a.Value.Kind : Int) == b.Value.Kind) && (((a.Value.Number : Int) == b.Value.Number) && (((a.Value.Words : Str) == b.Value.Words) && (decide (([a.Value.Version.1, a.Value.Version.2.1, a.Value.Version.2.2.1, a.Value.Version.2.2.2] : List Int) = [b.Value.Version.1, b.Value.Version.2.1, b.Value.Version.2.2.1, b.Value.Version.2.2.2]) && true))))) then (bi (unK d_api_Cond 11 a.Kids) fun l4 => bi (unK d_api_Cond 11 b.Kids) fun l6 => bi (m_slices_EqualFunc_api_Cond_api_Cond_api_Cond_api_Cond (m_laneref1_SameCond k) l4 l6) fun y8 => some y8) else (some false)) fun q1 => some q1

def m_lanelaw1_postured (k : Nat) : Option Bool :=
  bi (m_posture_Parse k [97]) fun y1 => some ((((y1.2.2 : Int) == 0) && ((y1.1.Kind : Int) == 1)) && ((y1.1.Name : Str) == [97]))

def m_lanelaw1_CondsRead (k : Nat) (l : List Int) : Option Bool :=
  bi (m_lanemake_Stream_CondString k (⟨l, 0⟩ : T_lanemake_Stream)) fun y1 => bi (m_posture_Parse k y1.1) fun y3 => bi (m_laneref1_CondParse k y1.1) fun y5 => bi (bif (((y3.2.2 : Int) == y5.2.2) && ((y3.2.1 : Int) == y5.2.1)) then (bi (m_laneref1_SameCond k y3.1 y5.1) fun y10 => some y10) else (some false)) fun q7 => bi (bif q7 then (bi (m_lanelaw1_postured k) fun y16 => some y16) else (some false)) fun q13 => some q13

end
end Go.Gk
