/-
  Names read off bytes, two ways.
-/
import Derived.Test.YtdihjljlggagiaaGreatDoorGRead
set_option linter.unusedVariables false
set_option linter.unusedSimpArgs false
set_option maxRecDepth 100000
namespace Go.Gk
def Byt (b : List Int) : Prop := ∀ x ∈ b, 0 ≤ x ∧ x < 256
theorem numS_ok {s x : Nat} (hs : s < 2 ^ 56) (hx : x < 256) : numS (s : Int) (x : Int) = ((s * 256 + x : Nat) : Int) := by
  unfold numS shlV
  have e : (IntKind.u64.wrap ((s : Int) * 2 ^ min 8 IntKind.u64.bits)) = ((s * 2 ^ 8 : Nat) : Int) := by
    show IntKind.u64.wrap ((s : Int) * 2 ^ 8) = _
    rw [show (s : Int) * 2 ^ 8 = ((s * 2 ^ 8 : Nat) : Int) by rw [Int.natCast_mul]; rfl, u64_id (by omega)]
  rw [e, u64_id (by omega), or_u (by omega) (by omega), or_add hx]
theorem numV_one {x : Nat} (hx : x < 256) : numV [(x : Int)] = (x : Int) := by
  show numS 0 (x : Int) = _
  have := numS_ok (s := 0) (x := x) (by decide) hx
  simpa using this
theorem numV_two {x y : Nat} (hx : x < 256) (hy : y < 256) : numV [(x : Int), (y : Int)] = ((x * 256 + y : Nat) : Int) := by
  show numS (numV [(x : Int)]) (y : Int) = _
  rw [numV_one hx, numS_ok (by omega) hy]
def st (l : List Int) : Str := l.map fun z => UInt8.ofNat z.toNat
theorem st_len (l : List Int) : (st l).length = l.length := by simp [st]
theorem strB_byt : ∀ l : List Int, Byt l → strB l = some (st l)
  | [], _ => rfl
  | z :: l, h => by
    have hz := h z List.mem_cons_self
    simp only [strB]
    rw [decide_eq_true hz.1, decide_eq_true hz.2, strB_byt l fun x hx => h x (List.mem_cons_of_mem _ hx)]
    rfl
theorem byt_seg {b : List Int} (h : Byt b) (i j : Nat) : Byt ((b.take j).drop i) := fun x hx => h x (List.mem_of_mem_take (List.mem_of_mem_drop hx))
theorem byt_zeros (n : Nat) : Byt (List.replicate n 0) := fun x hx => by rw [List.eq_of_mem_replicate hx]; decide
theorem byt_at {b : List Int} (h : Byt b) {i : Nat} (hi : i < b.length) : ∃ c : Nat, c < 256 ∧ b[i]? = some (c : Int) := by
  have := h _ (List.getElem_mem hi)
  exact ⟨(b[i]).toNat, by omega, by rw [List.getElem?_eq_getElem hi]; congr 1; omega⟩
theorem seg_one {b : List Int} {i : Nat} {c : Int} (h : b[i]? = some c) : (b.take (i + 1)).drop i = [c] := by
  have hi := (List.getElem?_eq_some_iff.1 h).1
  rw [List.take_add_one, h, List.drop_append_of_le_length (by rw [List.length_take]; omega), List.drop_eq_nil_of_le (by rw [List.length_take]; omega)]
  rfl
theorem seg_two {b : List Int} {i : Nat} {c d : Int} (h : b[i]? = some c) (h2 : b[i + 1]? = some d) : (b.take (i + 2)).drop i = [c, d] := by
  have hi := (List.getElem?_eq_some_iff.1 h2).1
  rw [List.take_add_one, h2, List.drop_append_of_le_length (by rw [List.length_take]; omega), seg_one h]
  rfl
theorem join_app (l r : List Str) (hr : r ≠ []) : Lib.join (l ++ [Lib.join r [46]]) [46] = Lib.join (l ++ r) [46] := by
  have h1 := join_dots (l ++ [Lib.join r [46]]) (by simp) []
  have h2 := join_dots (l ++ r) (by simp [hr]) []
  have h3 := join_dots r hr []
  simp only [List.append_nil] at h1 h2 h3
  have e : dots (l ++ [Lib.join r [46]]) = dots (l ++ r) := by
    rw [dots_snoc, h3]
    simp [dots]
  rw [e, ← h2] at h1
  exact List.append_cancel_right h1
theorem join_nil_iff (r : List Str) (h : ∀ x ∈ r, x ≠ []) : Lib.join r [46] = [] ↔ r = [] := by
  constructor
  · intro hj
    cases r with
    | nil => rfl
    | cons x r =>
      rw [Lib.join_cons] at hj
      exact absurd (List.append_eq_nil_iff.1 hj).1 (h x List.mem_cons_self)
  · rintro rfl
    rfl
theorem join_any (l : List Str) (h1 : l.length ≤ 4294967296) (h2 : (dots l).length ≤ 1099511627776) : m_strings_Join l [46] = some (Lib.join l [46]) := by
  have := join_le l
  unfold m_strings_Join
  rw [Nat.ble_eq_true_of_le h1, Nat.ble_eq_true_of_le (show (Lib.join l [46]).length ≤ 1099511627776 by omega)]
  rfl
/-! ### The loops -/
abbrev RS : Type := T_laneref1_bytesReader × (List Str)
abbrev RO : Type := (T_laneref1_bytesReader × (List Str)) ⊕ (Str × T_laneref1_bytesReader)
def RF (begin : Int) (nm : T_laneref1_bytesReader → Option (Str × T_laneref1_bytesReader)) (s2 : RS) : Option (LS RS RO) :=
  bif !s2.1.bad then (bi (m_laneref1_bytesReader_take s2.1 1) fun y12 => bif y12.2.bad then (some (.go (y12.2, s2.2))) else (bif (wi (y12.1) : Int) == 0 then (bi (m_strings_Join s2.2 [46]) fun y17 => bi (some (y17, y12.2)) fun v => some (.out (.inr v))) else (bif decide ((wi (y12.1) : Int) < 64) then (bi (m_laneref1_bytesReader_text y12.2 (wi (y12.1))) fun y23 => bi (apd s2.2 [y23.1]) fun y25 => some (.go (y23.2, y25))) else (bif decide ((wi (y12.1) : Int) < 192) then (some (.go ((⟨y12.2.b, y12.2.v_at, true⟩ : T_laneref1_bytesReader), s2.2))) else (bi (m_laneref1_bytesReader_take y12.2 1) fun y30 => bif (y30.2.bad || (decide ((wi ((wi ((wi ((wi (y12.1)) - 192)) * 256)) + (wi (y30.1))) : Int) ≥ begin))) then (bi (some ([], (⟨y30.2.b, y30.2.v_at, (y30.2.bad || (decide ((wi ((wi ((wi ((wi (y12.1)) - 192)) * 256)) + (wi (y30.1))) : Int) ≥ begin)))⟩ : T_laneref1_bytesReader))) fun v => some (.out (.inr v))) else (bi (nm (⟨y30.2.b, wi ((wi ((wi ((wi (y12.1)) - 192)) * 256)) + (wi (y30.1))), false⟩ : T_laneref1_bytesReader)) fun y36 => bi (bif !((y36.1 : Str) == []) then (bi (apd s2.2 [y36.1]) fun y41 => some y41) else (some s2.2)) fun q38 => bi (m_strings_Join q38 [46]) fun y44 => bi (some (y44, (⟨y30.2.b, y30.2.v_at, y36.2.bad⟩ : T_laneref1_bytesReader))) fun v => some (.out (.inr v)))))))) else (some (.out (.inl (s2.1, s2.2))))
theorem rname_def (k : Nat) (r : T_laneref1_bytesReader) : m_laneref1_bytesReader_name (k + 1) r = bi (loopM (RF r.v_at (m_laneref1_bytesReader_name k)) k (r, ([] : List Str))) fun q => orI q fun a6 => some ([], a6.1) := rfl
abbrev PS : Type := T_name_decoder × (List Str) × Int × Int
abbrev PO : Type := T_name_decoder × (List Str) × Int
def PF (s2 : PS) : Option (LS PS PO) :=
  bif !s2.1.bad then (bi (m_name_decoder_number s2.1 1) fun y12 => bif (wi (y12.1) : Int) == 0 then (some (.out (y12.2, s2.2.1, s2.2.2.2))) else (bif decide ((wi (y12.1) : Int) < 192) then (bi (bif decide ((wi (y12.1) : Int) > 63) then (some true) else (some y12.2.bad)) fun q17 => bi (m_name_decoder_take (⟨y12.2.b, y12.2.v_at, q17⟩ : T_name_decoder) (wi (y12.1))) fun y21 => bi (strB y21.1) fun y23 => bi (apd s2.2.1 [y23]) fun y25 => some (.go (y21.2, y25, s2.2.2.1, s2.2.2.2))) else (bi (m_name_decoder_number (⟨y12.2.b, s2.1.v_at, y12.2.bad⟩ : T_name_decoder) 2) fun y28 => bi (bif decide ((wi ((wi (y28.1)) - 49152) : Int) ≥ s2.2.2.1) then (some true) else (some y28.2.bad)) fun q30 => bi (bif decide ((s2.2.2.2 : Int) < 0) then (some y28.2.v_at) else (some s2.2.2.2)) fun q34 => some (.go ((⟨y28.2.b, wi ((wi (y28.1)) - 49152), q30⟩ : T_name_decoder), s2.2.1, wi ((wi (y28.1)) - 49152), q34))))) else (some (.out (s2.1, s2.2.1, s2.2.2.2)))
theorem pname_def (k : Nat) (x : T_name_decoder) : m_name_decoder_name k x = bi (loopM PF k (x, ([] : List Str), x.v_at, -1)) fun q4 => bi (bif decide ((q4.2.2 : Int) ≥ 0) then (some q4.2.2) else (some q4.1.v_at)) fun q39 => bi (m_strings_Join q4.2.1 [46]) fun y43 => some (y43, (⟨q4.1.b, q39, q4.1.bad⟩ : T_name_decoder)) := rfl
theorem loop_go {σ ρ : Type} {f : σ → Option (LS σ ρ)} {s s' : σ} {k : Nat} (h : f s = some (.go s')) : loopM f (k + 1) s = loopM f k s' := by simp only [loopM, h]
theorem loop_out {σ ρ : Type} {f : σ → Option (LS σ ρ)} {s : σ} {r : ρ} {k : Nat} (h : f s = some (.out r)) : loopM f (k + 1) s = some r := by simp only [loopM, h]
theorem rf_bad (begin : Int) (nm : T_laneref1_bytesReader → Option (Str × T_laneref1_bytesReader)) (b : List Int) (a : Int) (l : List Str) : RF begin nm (⟨b, a, true⟩, l) = some (.out (.inl (⟨b, a, true⟩, l))) := rfl
theorem pf_bad (b : List Int) (a : Int) (l : List Str) (s bh : Int) : PF (⟨b, a, true⟩, l, s, bh) = some (.out (⟨b, a, true⟩, l, bh)) := rfl
end Go.Gk
