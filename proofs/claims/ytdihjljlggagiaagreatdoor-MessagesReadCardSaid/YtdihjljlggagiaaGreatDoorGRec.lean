/-
  Records read off bytes, two ways; rows of them.
-/
import Derived.Test.YtdihjljlggagiaaGreatDoorGMsg
set_option linter.unusedVariables false
set_option linter.unusedSimpArgs false
set_option maxRecDepth 100000
namespace Go.Gk
/-- What is known of a record that was read. -/
def RecOk (r : T_api_Record) : Prop := 0 ≤ r.Addr.Hi ∧ r.Words.length ≤ 300
theorem bad_num {x x' : T_name_decoder} {v : Int} (n : Nat) (hn : n ≤ 300) (hx : x.bad = true) (e : m_name_decoder_number x (n : Int) = some (v, x')) : x'.bad = true := by
  obtain ⟨b, u, g⟩ := x
  obtain rfl : g = true := hx
  have e5 := (pnum_of (ptake_bad b u n hn)).symm.trans e
  rw [← (Prod.mk.inj (Option.some.inj e5)).2]
theorem bad_take {x x' : T_name_decoder} {v : List Int} (n : Nat) (hn : n ≤ 300) (hx : x.bad = true) (e : m_name_decoder_take x (n : Int) = some (v, x')) : x'.bad = true := by
  obtain ⟨b, u, g⟩ := x
  obtain rfl : g = true := hx
  have e5 := (ptake_bad b u n hn).symm.trans e
  rw [← (Prod.mk.inj (Option.some.inj e5)).2]
theorem pname_bad (b : List Int) (u : Int) : m_name_decoder_name 20000000 ⟨b, u, true⟩ = some ([], ⟨b, u, true⟩) := by
  rw [show (20000000 : Nat) = 19999999 + 1 from rfl, pname_def, loop_out (pf_bad b u [] _ _)]
  rfl
theorem bad_name {x x' : T_name_decoder} {v : Str} (hx : x.bad = true) (e : m_name_decoder_name 20000000 x = some (v, x')) : x'.bad = true := by
  obtain ⟨b, u, g⟩ := x
  obtain rfl : g = true := hx
  have e5 := (pname_bad b u).symm.trans e
  rw [← (Prod.mk.inj (Option.some.inj e5)).2]
theorem good_of {p q : T_name_decoder} (h : p.bad = true → q.bad = true) (hq : q.bad = false) : p.bad = false := by
  cases hp : p.bad with
  | false => rfl
  | true => rw [h hp] at hq; cases hq
section
variable {b : List Int} (hb : b.length ≤ 4096) (hB : Byt b)
include hb hB
theorem record_two {x : T_name_decoder} {y : T_laneref1_bytesReader} (h : StP b x y) :
    ∃ r r' x' y', m_name_decoder_record 20000000 x = some (r, x') ∧ m_laneref1_bytesReader_record 20000000 y = some (r', y') ∧ StP b x' y' ∧ (x'.bad = false → r = r') ∧ (x.bad = true → x'.bad = true) ∧ RecOk r := by
  obtain ⟨s, s', x1, y1, e1, e2, h1, h1'⟩ := name_two hb hB h
  obtain ⟨k, x2, y2, e3, e4, h2, _, _, hk⟩ := num_two hb hB h1 1 (by decide) (by decide)
  obtain ⟨lf, x3, y3, e5, e6, h3, _⟩ := num_two hb hB h2 4 (by decide) (by decide)
  have b2 : x2.bad = false → s = s' := fun hx => h1' (good_of (fun hp => bad_num 1 (by decide) hp e3) hx)
  have b3 : x3.bad = false → s = s' := fun hx => b2 (good_of (fun hp => bad_num 4 (by decide) hp e5) hx)
  have c3 : x.bad = true → x3.bad = true := fun hx => bad_num 4 (by decide) (bad_num 1 (by decide) (bad_name hx e1) e3) e5
  unfold m_name_decoder_record m_laneref1_bytesReader_record
  rw [e1, e2]
  simp only [bi_some]
  rw [show m_name_decoder_number x1 1 = _ from e3, show m_laneref1_bytesReader_take y1 1 = _ from e4]
  simp only [bi_some]
  rw [show m_name_decoder_number x2 4 = _ from e5, show m_laneref1_bytesReader_take y2 4 = _ from e6]
  simp only [bi_some]
  cases wi k == 1 with
  | true =>
    obtain ⟨v, x4, y4, e7, e8, h4, _⟩ := num_two hb hB h3 4 (by decide) (by decide)
    simp only [cond_true]
    rw [show m_name_decoder_number x3 4 = _ from e7, show m_laneref1_bytesReader_take y3 4 = _ from e8]
    refine ⟨_, _, _, _, rfl, rfl, h4, fun hx => ?_, fun hx => bad_num 4 (by decide) (c3 hx) e7, ⟨Int.le_refl _, Nat.zero_le _⟩⟩
    rw [b3 (good_of (fun hp => bad_num 4 (by decide) hp e7) hx)]
  | false =>
    simp only [cond_false]
    cases wi k == 28 with
    | true =>
      obtain ⟨v, x4, y4, e7, e8, h4, hv, _⟩ := num_two hb hB h3 8 (by decide) (by decide)
      obtain ⟨v2, x5, y5, e9, e10, h5, _⟩ := num_two hb hB h4 8 (by decide) (by decide)
      simp only [cond_true]
      rw [show m_name_decoder_number x3 8 = _ from e7, show m_laneref1_bytesReader_take y3 8 = _ from e8]
      simp only [bi_some]
      rw [show m_name_decoder_number x4 8 = _ from e9, show m_laneref1_bytesReader_take y4 8 = _ from e10]
      refine ⟨_, _, _, _, rfl, rfl, h5, fun hx => ?_, fun hx => bad_num 8 (by decide) (bad_num 8 (by decide) (c3 hx) e7) e9, ⟨hv, Nat.zero_le _⟩⟩
      rw [b3 (good_of (fun hp => bad_num 8 (by decide) (bad_num 8 (by decide) hp e7) e9) hx)]
    | false =>
      simp only [cond_false]
      cases wi k == 16 with
      | true =>
        obtain ⟨v, x4, y4, e7, e8, h4, hv, _, hv2⟩ := num_two hb hB h3 1 (by decide) (by decide)
        have hvn : wi v = ((v.toNat : Nat) : Int) := by have := hv2 rfl; rw [wi_id (by omega) (by omega)]; omega
        obtain ⟨l, t, x5, y5, e9, e10, hwl, e11, h5, h5'⟩ := text_two hb hB h4 v.toNat (by have := hv2 rfl; omega)
        simp only [cond_true]
        rw [show m_name_decoder_number x3 1 = _ from e7, show m_laneref1_bytesReader_take y3 1 = _ from e8]
        simp only [bi_some]
        rw [hvn, e9, e11]
        simp only [bi_some, e10]
        refine ⟨_, _, _, _, rfl, rfl, h5, fun hx => ?_, fun hx => bad_take v.toNat (by have := hv2 rfl; omega) (bad_num 1 (by decide) (c3 hx) e7) e9, ⟨Int.le_refl _, hwl⟩⟩
        rw [b3 (good_of (fun hp => bad_take v.toNat (by have := hv2 rfl; omega) (bad_num 1 (by decide) hp e7) e9) hx), h5' hx]
      | false =>
        simp only [cond_false]
        generalize hq : (bif wi k == 5 then some (wi k == 5) else some (wi k == 12)) = q
        have hqs : ∃ z, q = some z := by rw [← hq]; cases wi k == 5 <;> exact ⟨_, rfl⟩
        obtain ⟨z, rfl⟩ := hqs
        simp only [bi_some]
        cases z with
        | true =>
          obtain ⟨t, t', x4, y4, e7, e8, h4, h4'⟩ := name_two hb hB h3
          simp only [cond_true]
          rw [e7, e8]
          refine ⟨_, _, _, _, rfl, rfl, h4, fun hx => ?_, fun hx => bad_name (c3 hx) e7, ⟨Int.le_refl _, Nat.zero_le _⟩⟩
          rw [b3 (good_of (fun hp => bad_name hp e7) hx), h4' hx]
        | false =>
          have hbad : StP b ⟨x3.b, x3.v_at, true⟩ ⟨y3.b, y3.v_at, true⟩ := by
            rcases h3 with ⟨a, _, rfl, rfl⟩ | ⟨u, w, rfl, rfl⟩
            · exact .inr ⟨_, _, rfl, rfl⟩
            · exact .inr ⟨_, _, rfl, rfl⟩
          exact ⟨_, _, _, _, rfl, rfl, hbad, fun hx => (by cases hx), fun _ => rfl, ⟨Int.le_refl _, Nat.zero_le _⟩⟩
end
/-! ### Rows of them -/
theorem rows_two {α : Type} {b : List Int} {n : Int} (Qa : α → Prop) (F : T_name_decoder × (List α) × Int → Option (LS (T_name_decoder × (List α) × Int) (T_name_decoder × (List α)))) (G : Nat → T_laneref1_bytesReader × (List α) → Option (T_laneref1_bytesReader × (List α)))
    (hstop : ∀ x l i, (¬ i < n ∨ x.bad = true) → F (x, l, i) = some (.out (x, l)))
    (hgo : ∀ x y l l' (i : Nat), StP b x y → x.bad = false → (i : Int) < n → l.length ≤ 1000 → l'.length ≤ 1000 → ∃ r r' x' y', F (x, l, (i : Int)) = some (.go (x', l ++ [r], ((i + 1 : Nat) : Int))) ∧ G i (y, l') = some (y', l' ++ [r']) ∧ StP b x' y' ∧ (x'.bad = false → r = r') ∧ Qa r)
    (hbad : ∀ y l' (i : Nat), y.bad = true → y.b = b → l'.length ≤ 1000 → ∃ r' y', G i (y, l') = some (y', l' ++ [r']) ∧ y'.bad = true ∧ y'.b = b) :
    ∀ (r i : Nat) (x : T_name_decoder) (y : T_laneref1_bytesReader) (l l' : List α) (k : Nat), StP b x y → (x.bad = false → l = l') → n = ((i + r : Nat) : Int) → i + r ≤ 900 → l.length ≤ i → l'.length = i → (∀ q ∈ l, Qa q) → r < k →
      ∃ x' y' m m', loopM F k (x, l, (i : Int)) = some (x', m) ∧ rangeF (fun i (_ : Unit) s => G i s) i (List.replicate r ()) (y, l') = some (y', m') ∧ StP b x' y' ∧ (x'.bad = false → m = m') ∧ (∀ q ∈ m, Qa q) ∧ m.length ≤ 900 := by
  have bads : ∀ (r i : Nat) (y : T_laneref1_bytesReader) (l' : List α), y.bad = true → y.b = b → l'.length = i → i + r ≤ 900 → ∃ y' m', rangeF (fun i (_ : Unit) s => G i s) i (List.replicate r ()) (y, l') = some (y', m') ∧ y'.bad = true ∧ y'.b = b := by
    intro r
    induction r with
    | zero => intro i y l' h1 h2 h3 h4; exact ⟨y, l', rfl, h1, h2⟩
    | succ r ih =>
      intro i y l' h1 h2 h3 h4
      obtain ⟨r', y', e, g1, g2⟩ := hbad y l' i h1 h2 (by omega)
      rw [List.replicate_succ]
      simp only [rangeF, e]
      exact ih (i + 1) y' (l' ++ [r']) g1 g2 (by simp; omega) (by omega)
  intro r
  induction r with
  | zero =>
    intro i x y l l' k h1 h2 h3 h4 h5 h6 h7 hk
    obtain ⟨k', rfl⟩ : ∃ k', k = k' + 1 := ⟨k - 1, by omega⟩
    exact ⟨x, y, l, l', loop_out (hstop x l i (.inl (by omega))), rfl, h1, h2, h7, by omega⟩
  | succ r ih =>
    intro i x y l l' k h1 h2 h3 h4 h5 h6 h7 hk
    obtain ⟨k', rfl⟩ : ∃ k', k = k' + 1 := ⟨k - 1, by omega⟩
    cases hx : x.bad with
    | true =>
      rcases h1 with ⟨a, _, rfl, _⟩ | ⟨u, w, rfl, rfl⟩
      · cases hx
      · obtain ⟨y', m', e, g1, g2⟩ := bads (r + 1) i ⟨b, w, true⟩ l' rfl rfl h6 (by omega)
        obtain ⟨b', w', g'⟩ := y'
        obtain rfl : b' = b := g2
        obtain rfl : g' = true := g1
        exact ⟨_, _, l, m', loop_out (hstop _ l i (.inr rfl)), e, .inr ⟨u, w', rfl, rfl⟩, fun h => (by cases h), h7, by omega⟩
    | false =>
      obtain ⟨q, q', x', y', e1, e2, g1, g2, g3⟩ := hgo x y l l' i h1 hx (by omega) (by omega) (by omega)
      rw [loop_go e1, List.replicate_succ]
      simp only [rangeF, e2]
      refine ih (i + 1) x' y' (l ++ [q]) (l' ++ [q']) k' g1 (fun hx' => by rw [g2 hx', h2 hx]) (by omega) (by omega) (by simp; omega) (by simp; omega) (fun z hz => ?_) (by omega)
      rcases List.mem_append.1 hz with hz | hz
      · exact h7 z hz
      · rw [List.mem_singleton.1 hz]; exact g3
end Go.Gk
