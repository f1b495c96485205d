/-
  Numbers out of texts: whatever the text, there is an answer.
-/
import Derived.Test.YtffmljbfffojlaaGreatDoorFSplit
set_option linter.unusedVariables false
set_option linter.unusedSimpArgs false
set_option maxRecDepth 100000
namespace Go.Gk
def puF (b : Int) (cut mx : Int) (mxv : Int) (i75 : Nat) (x77 : Int) (s76 : Bool × Int) : Option (LS (Bool × Int) (Int × Value)) :=
  bi (bif (((x77 : Int) == 95) && ((b : Int) == 0)) then (bi (some (.go (true, s76.2))) fun v => some (.inr v)) else (bif ((decide ((48 : Int) ≤ x77)) && (decide ((x77 : Int) ≤ 57))) then (some (.inl (IntKind.u8.wrap (x77 - 48)))) else (bi (m_internal_strconv_lower x77) fun y95 => bi (bif decide ((97 : Int) ≤ y95) then (bi (m_internal_strconv_lower x77) fun y100 => some (decide ((y100 : Int) ≤ 122))) else (some false)) fun q97 => bif q97 then (bi (m_internal_strconv_lower x77) fun y104 => some (.inl (IntKind.u8.wrap ((IntKind.u8.wrap (y104 - 97)) + 10)))) else (bi (bi (some (0, (Value.iface 122 (.int .i64 2)))) fun v => some (.out v)) fun v => some (.inr v)))) : Option (Int ⊕ (LS (Bool × Int) (Int × Value)))) fun q => orI q fun a88 => bif decide ((a88 : Int) ≥ (IntKind.u8.wrap (b))) then (bi (some (0, (Value.iface 122 (.int .i64 2)))) fun v => some (.out v)) else (bif decide ((s76.2 : Int) ≥ cut) then (bi (some (mxv, (Value.iface 122 (.int .i64 1)))) fun v => some (.out v)) else (bif ((decide ((IntKind.u64.wrap ((IntKind.u64.wrap (s76.2 * (IntKind.u64.wrap (b)))) + (IntKind.u64.wrap (a88))) : Int) < (IntKind.u64.wrap (s76.2 * (IntKind.u64.wrap (b)))))) || (decide ((IntKind.u64.wrap ((IntKind.u64.wrap (s76.2 * (IntKind.u64.wrap (b)))) + (IntKind.u64.wrap (a88))) : Int) > mxv))) then (bi (some (mxv, (Value.iface 122 (.int .i64 1)))) fun v => some (.out v)) else (some (.go (s76.1, IntKind.u64.wrap ((IntKind.u64.wrap (s76.2 * (IntKind.u64.wrap (b)))) + (IntKind.u64.wrap (a88))))))))
def badR (r : Int × Value) : Prop := r.2 = .iface 122 (.int .i64 1) ∨ r.2 = .iface 122 (.int .i64 2)
theorem puF_ok (b cut mx mxv : Int) (hb : (b == 0) = false) (i : Nat) (x : Int) (n : Int) : (∃ s', puF b cut mx mxv i x (false, n) = some (.go s') ∧ s'.1 = false) ∨ ∃ r, puF b cut mx mxv i x (false, n) = some (.out r) ∧ badR r := by
  have tail : ∀ a88 : Int, (∃ s', (bif decide ((a88 : Int) ≥ (IntKind.u8.wrap (b))) then (bi (some (0, (Value.iface 122 (.int .i64 2)))) fun v => some (.out v)) else (bif decide ((n : Int) ≥ cut) then (bi (some (mxv, (Value.iface 122 (.int .i64 1)))) fun v => some (.out v)) else (bif ((decide ((IntKind.u64.wrap ((IntKind.u64.wrap (n * (IntKind.u64.wrap (b)))) + (IntKind.u64.wrap (a88))) : Int) < (IntKind.u64.wrap (n * (IntKind.u64.wrap (b)))))) || (decide ((IntKind.u64.wrap ((IntKind.u64.wrap (n * (IntKind.u64.wrap (b)))) + (IntKind.u64.wrap (a88))) : Int) > mxv))) then (bi (some (mxv, (Value.iface 122 (.int .i64 1)))) fun v => some (.out v)) else (some (.go (false, IntKind.u64.wrap ((IntKind.u64.wrap (n * (IntKind.u64.wrap (b)))) + (IntKind.u64.wrap (a88)))))))) : Option (LS (Bool × Int) (Int × Value))) = some (.go s') ∧ s'.1 = false) ∨
      ∃ r, (bif decide ((a88 : Int) ≥ (IntKind.u8.wrap (b))) then (bi (some (0, (Value.iface 122 (.int .i64 2)))) fun v => some (.out v)) else (bif decide ((n : Int) ≥ cut) then (bi (some (mxv, (Value.iface 122 (.int .i64 1)))) fun v => some (.out v)) else (bif ((decide ((IntKind.u64.wrap ((IntKind.u64.wrap (n * (IntKind.u64.wrap (b)))) + (IntKind.u64.wrap (a88))) : Int) < (IntKind.u64.wrap (n * (IntKind.u64.wrap (b)))))) || (decide ((IntKind.u64.wrap ((IntKind.u64.wrap (n * (IntKind.u64.wrap (b)))) + (IntKind.u64.wrap (a88))) : Int) > mxv))) then (bi (some (mxv, (Value.iface 122 (.int .i64 1)))) fun v => some (.out v)) else (some (.go (false, IntKind.u64.wrap ((IntKind.u64.wrap (n * (IntKind.u64.wrap (b)))) + (IntKind.u64.wrap (a88)))))))) : Option (LS (Bool × Int) (Int × Value))) = some (.out r) ∧ badR r := fun a88 => by
    cases decide ((a88 : Int) ≥ (IntKind.u8.wrap (b))) with
    | true => exact .inr ⟨_, rfl, .inr rfl⟩
    | false =>
      cases decide ((n : Int) ≥ cut) with
      | true => exact .inr ⟨_, rfl, .inl rfl⟩
      | false =>
        cases ((decide ((IntKind.u64.wrap ((IntKind.u64.wrap (n * (IntKind.u64.wrap (b)))) + (IntKind.u64.wrap (a88))) : Int) < (IntKind.u64.wrap (n * (IntKind.u64.wrap (b)))))) || (decide ((IntKind.u64.wrap ((IntKind.u64.wrap (n * (IntKind.u64.wrap (b)))) + (IntKind.u64.wrap (a88))) : Int) > mxv))) with
        | true => exact .inr ⟨_, rfl, .inl rfl⟩
        | false => exact .inl ⟨_, rfl, rfl⟩
  unfold puF
  rw [hb, Bool.and_false]
  cases (decide ((48 : Int) ≤ x)) && (decide ((x : Int) ≤ 57)) with
  | true => exact tail _
  | false =>
    simp only [cond_false, m_internal_strconv_lower, bi_some]
    cases decide ((97 : Int) ≤ bitsV BinOp.or IntKind.u8 x 32) with
    | false => exact .inr ⟨_, rfl, .inr rfl⟩
    | true =>
      simp only [cond_true, bi_some]
      cases decide (bitsV BinOp.or IntKind.u8 x 32 ≤ 122) with
      | false => exact .inr ⟨_, rfl, .inr rfl⟩
      | true => exact tail _
theorem pu_int (s : Str) (hl : s.length ≤ 300) (b w : Int) (hbw : b = 16 ∧ w = 4 ∨ b = 10 ∧ w = 8) : ∃ n e, m_internal_strconv_ParseUint 0 s b w = some (n, e) ∧ (e = .nilIface ∨ badR (n, e)) := by
  have hb : bytesZ s = some (bytesOf s) := by unfold bytesZ; rw [Nat.ble_eq_true_of_le (by omega)]; rfl
  unfold m_internal_strconv_ParseUint
  cases (s == []) with
  | true => exact ⟨_, _, rfl, .inr (.inr rfl)⟩
  | false =>
    rw [cond_false]
    have fin : ∀ cut mxv : Int, (b == 0) = false → ∃ n e, (bi (rangeM (σ := Bool × Int) (ρ := Int × Value) (puF b cut 0 mxv) 0 (bytesOf s) (false, 0)) fun q => goI q fun a80 => bi (bif a80.1 then (bi (m_internal_strconv_underscoreOK 0 s) fun y126 => some (!y126)) else (some false)) fun q123 => bif q123 then (some (0, (Value.iface 122 (.int .i64 2)))) else (some (a80.2, Value.nilIface))) = some (n, e) ∧ (e = .nilIface ∨ badR (n, e)) := fun cut mxv hb0 => by
      rcases rangeM_at (f := puF b cut 0 mxv) (bytesOf s) (fun _ st => st.1 = false) badR (fun i x st hx hi => by
        obtain ⟨u, n⟩ := st
        obtain rfl : u = false := hi
        exact puF_ok b cut 0 mxv hb0 i x n) (bytesOf s) 0 (false, 0) rfl rfl with ⟨⟨u, n⟩, h1, h2⟩ | ⟨⟨n, e⟩, h1, h2⟩
      · obtain rfl : u = false := h2
        rw [h1]
        exact ⟨_, _, rfl, .inl rfl⟩
      · rw [h1]
        exact ⟨_, _, rfl, .inr h2⟩
    rcases hbw with ⟨rfl, rfl⟩ | ⟨rfl, rfl⟩
    · change ∃ n e, (bi (bytesZ s) fun y73 => bi (rangeM (σ := Bool × Int) (ρ := Int × Value) (puF 16 1152921504606846976 0 (IntKind.u64.wrap (16 - 1))) 0 y73 (false, 0)) fun q => goI q fun a80 => bi (bif a80.1 then (bi (m_internal_strconv_underscoreOK 0 s) fun y126 => some (!y126)) else (some false)) fun q123 => bif q123 then (some (0, (Value.iface 122 (.int .i64 2)))) else (some (a80.2, Value.nilIface))) = some (n, e) ∧ (e = .nilIface ∨ badR (n, e))
      rw [hb, bi_some]
      exact fin 1152921504606846976 (IntKind.u64.wrap (16 - 1)) rfl
    · change ∃ n e, (bi (bytesZ s) fun y73 => bi (rangeM (σ := Bool × Int) (ρ := Int × Value) (puF 10 1844674407370955162 0 (IntKind.u64.wrap (256 - 1))) 0 y73 (false, 0)) fun q => goI q fun a80 => bi (bif a80.1 then (bi (m_internal_strconv_underscoreOK 0 s) fun y126 => some (!y126)) else (some false)) fun q123 => bif q123 then (some (0, (Value.iface 122 (.int .i64 2)))) else (some (a80.2, Value.nilIface))) = some (n, e) ∧ (e = .nilIface ∨ badR (n, e))
      rw [hb, bi_some]
      exact fin 1844674407370955162 (IntKind.u64.wrap (256 - 1)) rfl
theorem pu_any (s : Str) (hl : s.length ≤ 300) (b w : Int) (hbw : b = 16 ∧ w = 4 ∨ b = 10 ∧ w = 8) : ∃ r, m_strconv_ParseUint s b w = some r := by
  obtain ⟨n, e, h1, h2⟩ := pu_int s hl b w hbw
  unfold m_strconv_ParseUint
  rw [h1, bi_some]
  have hg : Nat.ble s.length 281474976710656 = true := Nat.ble_eq_true_of_le (by omega)
  rcases h2 with rfl | h | h
  · exact ⟨_, rfl⟩
  · obtain rfl : e = _ := h
    simp only
    rw [hg]
    exact ⟨_, rfl⟩
  · obtain rfl : e = _ := h
    simp only
    rw [hg]
    exact ⟨_, rfl⟩
end Go.Gk
