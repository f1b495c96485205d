/-
  The bytes that are drawn; the plain law: MessagesRead.
-/
import Derived.Test.YtdihjljlggagiaaGreatDoorGByt
set_option linter.unusedVariables false
set_option linter.unusedSimpArgs false
set_option maxRecDepth 100000
namespace Go.Gk
theorem subZ_any {b : List Int} {i j : Int} (h0 : 0 ≤ i) (h1 : i ≤ j) (h2 : j ≤ b.length) : ∃ z, subZ b i j = some z ∧ (Byt b → Byt z) ∧ z.length ≤ b.length := by
  obtain ⟨x, rfl⟩ := Int.eq_ofNat_of_zero_le h0
  obtain ⟨y, rfl⟩ := Int.eq_ofNat_of_zero_le (Int.le_trans h0 h1)
  exact ⟨_, subZ_cast (by omega) (by omega), fun hB => byt_seg hB _ _, by simp; omega⟩
theorem byt_set {b : List Int} (h : Byt b) (i : Nat) {z : Int} (h0 : 0 ≤ z) (h1 : z < 256) : Byt (b.set i z) := fun x hx => by
  rcases List.mem_or_eq_of_mem_set hx with hx | rfl
  · exact h x hx
  · exact ⟨h0, h1⟩
theorem bytesD (l : List Int) (a : Int) (b : List Int) (hl : l.length ≤ 9223372036854775807) (h0 : 0 ≤ a) (h1 : a < 4611686018427000000) (hB : Byt b) (hb : b.length ≤ 1000000) :
    ∃ r a', Byt r ∧ r.length ≤ 3000000 ∧ a ≤ a' ∧ a' ≤ a + 100 ∧ m_lanemake_Stream_Bytes ⟨l, a⟩ b = some (r, ⟨l, a'⟩) := by
  unfold m_lanemake_Stream_Bytes
  obtain ⟨n, n0, n1, en⟩ := range_ok l a 1 2 hl h0 (by omega) (by decide) (by decide) (by decide)
  rw [apd_some (by simp; omega), List.nil_append, bi_some, en, bi_some]
  simp only
  rw [decide_eq_true (show n ≤ 9223372036854775807 by omega)]
  obtain ⟨m, rfl⟩ := Int.eq_ofNat_of_zero_le (show 0 ≤ n by omega)
  have key := rangeI_at (n := m) (s := ((⟨l, a + 1⟩ : T_lanemake_Stream), b)) (ρ := (List Int) × T_lanemake_Stream) (f := fun (i5 : Nat) (s6 : T_lanemake_Stream × (List Int)) => bif ((s6.2.length : Int) : Int) == 0 then (bi (m_lanemake_Stream_Next s6.1 256) fun y18 => bi (apd s6.2 [IntKind.u8.wrap (y18.1)]) fun y20 => bi (some (y20, y18.2)) fun v => some (.out v)) else (bi (m_lanemake_Stream_Next s6.1 (s6.2.length : Int)) fun y25 => bi (m_lanemake_Stream_Next y25.2 4) fun y27 => bif (y27.1 : Int) == 0 then (bi (subZ s6.2 0 y25.1) fun z30 => bi (subZ s6.2 (wi (y25.1 + 1)) (s6.2.length : Int)) fun z32 => bi (apd z30 z32) fun y34 => some (.go (y27.2, y34))) else (bif (y27.1 : Int) == 1 then (bi (subZ s6.2 0 (wi (y25.1 + 1))) fun z38 => bi (subZ s6.2 y25.1 (s6.2.length : Int)) fun z40 => bi (apd z38 z40) fun y42 => some (.go (y27.2, y42))) else (bif (y27.1 : Int) == 2 then (bi (subZ s6.2 0 y25.1) fun z46 => some (.go (y27.2, z46))) else (bi (getZ s6.2 y25.1) fun x49 => bi (m_lanemake_Stream_Next y27.2 8) fun y52 => bi (shlZ .u8 1 y52.1) fun y54 => bi (getZ s6.2 y25.1) fun x56 => some (.go (y52.2, s6.2.set y25.1.toNat (bitsV .xor .u8 x49 y54))))))))
    (fun i s => ∃ a', s.1 = ⟨l, a'⟩ ∧ a + 1 ≤ a' ∧ a' ≤ a + 1 + 3 * i ∧ Byt s.2 ∧ s.2.length ≤ 1000000 * (i + 1)) (fun r => ∃ a', r.2 = ⟨l, a'⟩ ∧ a + 1 ≤ a' ∧ a' ≤ a + 10 ∧ Byt r.1 ∧ r.1.length ≤ 3000000)
    ⟨a + 1, rfl, by omega, by omega, hB, by simp only; omega⟩ (by
      rintro i ⟨s, out⟩ hi ⟨a', e1, e2, e3, e4, e5⟩
      simp only at e1 e4 e5 ⊢
      subst e1
      have hi2 : i < 2 := by omega
      by_cases hz : out.length = 0
      · obtain ⟨v, _, _, ev⟩ := next_ok l a' 256 hl (by omega) (by omega) (by decide) (by decide)
        rw [hz, show (((0 : Nat) : Int) == 0) = true from rfl, ev]
        simp only [cond_true, bi_some]
        rw [apd_some (by simp; omega)]
        exact .inr ⟨_, rfl, a' + 1, rfl, by omega, by omega, e4.app (byt_one _), by simp; omega⟩
      · rw [show ((out.length : Int) == 0) = false from beq_eq_false_iff_ne.2 (by omega)]
        obtain ⟨j, j0, j1, ej⟩ := next_ok l a' (out.length : Int) hl (by omega) (by omega) (by omega) (by omega)
        obtain ⟨c, c0, c1, ec⟩ := next_ok l (a' + 1) 4 hl (by omega) (by omega) (by decide) (by decide)
        rw [ej]
        simp only [cond_false, bi_some]
        rw [ec]
        simp only [bi_some]
        have hw1 : wi (j + 1) = j + 1 := wi_id (by omega) (by omega)
        obtain ⟨z1, s1, b1, l1⟩ := subZ_any (b := out) (i := 0) (j := j) (by omega) j0 (by omega)
        obtain ⟨z2, s2, b2, l2⟩ := subZ_any (b := out) (i := j + 1) (j := (out.length : Int)) (by omega) (by omega) (by omega)
        obtain ⟨z3, s3, b3, l3⟩ := subZ_any (b := out) (i := 0) (j := j + 1) (by omega) (by omega) (by omega)
        obtain ⟨z4, s4, b4, l4⟩ := subZ_any (b := out) (i := j) (j := (out.length : Int)) (by omega) (by omega) (by omega)
        have L3 : z3.length + z4.length ≤ out.length + 1 := by
          obtain ⟨x, rfl⟩ := Int.eq_ofNat_of_zero_le j0
          rw [show ((x : Int) + 1) = ((x + 1 : Nat) : Int) by omega, show (0 : Int) = ((0 : Nat) : Int) from rfl, subZ_cast (by omega) (by omega)] at s3
          rw [subZ_cast (by omega) (by omega)] at s4
          cases s3
          cases s4
          simp
          omega
        rw [hw1, s1, s2, s3, s4]
        simp only [bi_some]
        cases hc0 : (c == 0) with
        | true =>
          simp only [cond_true]
          have L1 : z1.length + z2.length ≤ out.length := by
            obtain ⟨x, rfl⟩ := Int.eq_ofNat_of_zero_le j0
            rw [show (0 : Int) = ((0 : Nat) : Int) from rfl, subZ_cast (by omega) (by omega)] at s1
            rw [show ((x : Int) + 1) = ((x + 1 : Nat) : Int) by omega, subZ_cast (by omega) (by omega)] at s2
            cases s1
            cases s2
            simp
            omega
          rw [apd_some (by omega)]
          exact .inl ⟨_, rfl, a' + 1 + 1, rfl, by omega, by omega, (b1 e4).app (b2 e4), by simp; omega⟩
        | false =>
          cases hc1 : (c == 1) with
          | true =>
            simp only [cond_true, cond_false]
            rw [apd_some (by omega)]
            exact .inl ⟨_, rfl, a' + 1 + 1, rfl, by omega, by omega, (b3 e4).app (b4 e4), by simp; omega⟩
          | false =>
            cases hc2 : (c == 2) with
            | true =>
              simp only [cond_true, cond_false]
              exact .inl ⟨_, rfl, a' + 1 + 1, rfl, by omega, by omega, b1 e4, by simp only; omega⟩
            | false =>
              simp only [cond_false]
              obtain ⟨x, _, hx⟩ := getZ_in out j0 j1
              obtain ⟨q, q0, q1, eq⟩ := next_ok l (a' + 1 + 1) 8 hl (by omega) (by omega) (by decide) (by decide)
              obtain ⟨q', rfl⟩ := Int.eq_ofNat_of_zero_le q0
              rw [hx]
              simp only [bi_some]
              rw [eq]
              refine .inl ⟨_, rfl, a' + 1 + 1 + 1, rfl, by omega, by omega, byt_set e4 _ (Int.emod_nonneg _ (by decide)) (Int.emod_lt_of_pos _ (by decide)), by simp; omega⟩)
  rcases key with ⟨⟨s', out'⟩, e, a', rfl, g1, g2, g3, g4⟩ | ⟨⟨r, s'⟩, e, a', rfl, g1, g2, g3, g4⟩
  · refine ⟨out', a', g3, by simp only at g4; omega, by omega, by omega, ?_⟩
    rw [show ∀ m : Option (LS (T_lanemake_Stream × List Int) ((List Int) × T_lanemake_Stream)), gd true m = m from fun _ => rfl, e]
    rfl
  · refine ⟨r, a', g3, g4, by omega, by omega, ?_⟩
    rw [show ∀ m : Option (LS (T_lanemake_Stream × List Int) ((List Int) × T_lanemake_Stream)), gd true m = m from fun _ => rfl, e]
    rfl
end Go.Gk
