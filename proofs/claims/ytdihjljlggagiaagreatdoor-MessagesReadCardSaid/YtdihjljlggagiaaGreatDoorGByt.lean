/-
  What is written is bytes.
-/
import Derived.Test.YtdihjljlggagiaaGreatDoorGDraw
set_option linter.unusedVariables false
set_option linter.unusedSimpArgs false
set_option maxRecDepth 100000
namespace Go.Gk
theorem loopM_pres {σ ρ : Type} {f : σ → Option (LS σ ρ)} (I : σ → Prop) (Q : ρ → Prop) (hgo : ∀ s s', I s → f s = some (.go s') → I s') (hout : ∀ s r, I s → f s = some (.out r) → Q r) : ∀ (k : Nat) (s : σ) (r : ρ), I s → loopM f k s = some r → Q r
  | 0, s, r, _, h => by cases h
  | k + 1, s, r, hI, h => by
    simp only [loopM] at h
    cases hf : f s with
    | none => rw [hf] at h; cases h
    | some q =>
      rw [hf] at h
      cases q with
      | go s' => exact loopM_pres I Q hgo hout k s' r (hgo s s' hI hf) h
      | out v => cases h; exact hout _ _ hI hf
theorem rangeF_pres {α σ : Type} {f : Nat → α → σ → Option σ} (I : σ → Prop) (step : ∀ i x s s', I s → f i x s = some s' → I s') : ∀ (l : List α) (i : Nat) (s r : σ), I s → rangeF f i l s = some r → I r
  | [], i, s, r, hI, h => by cases h; exact hI
  | x :: l, i, s, r, hI, h => by
    simp only [rangeF] at h
    cases hf : f i x s with
    | none => rw [hf] at h; cases h
    | some s' => rw [hf] at h; exact rangeF_pres I step l (i + 1) s' r (step i x s s' hI hf) h
theorem Byt.app {a b : List Int} (h : Byt a) (h2 : Byt b) : Byt (a ++ b) := fun x hx => (List.mem_append.1 hx).elim (h x) (h2 x)
theorem byt_one (z : Int) : Byt [IntKind.u8.wrap z] := fun x hx => by
  rw [List.mem_singleton.1 hx]
  exact ⟨Int.emod_nonneg _ (by decide), Int.emod_lt_of_pos _ (by decide)⟩
theorem byt_str (s : Str) : Byt (bytesOf s) := fun x hx => by
  obtain ⟨c, _, rfl⟩ := List.mem_map.1 hx
  have := c.toNat_lt
  exact ⟨by omega, by omega⟩
theorem byt_apd {a b r : List Int} (h : apd a b = some r) (ha : Byt a) (hb : Byt b) : Byt r := by
  obtain ⟨rfl, _⟩ := apd_ok h
  exact ha.app hb
theorem byt_put {k : Nat} {p q : T_laneref1_pen} {n m : Int} (h : m_laneref1_pen_put k p n m = some q) (hp : Byt p.b) : Byt q.b := by
  unfold m_laneref1_pen_put at h
  obtain ⟨r, h1, h2⟩ := bi_ok h
  cases h2
  refine loopM_pres (fun s => Byt s.1) (fun r => Byt r) (fun s s' hI hf => ?_) (fun s r hI hf => ?_) k _ r hp h1
  · cases hc : decide ((s.2 : Int) ≥ 0) with
    | true =>
      rw [hc] at hf
      obtain ⟨y, _, hf⟩ := bi_ok hf
      obtain ⟨z, e, hf⟩ := bi_ok hf
      cases hf
      exact byt_apd e hI (byt_one _)
    | false => rw [hc] at hf; cases hf
  · cases hc : decide ((s.2 : Int) ≥ 0) with
    | true =>
      rw [hc] at hf
      obtain ⟨y, _, hf⟩ := bi_ok hf
      obtain ⟨z, e, hf⟩ := bi_ok hf
      cases hf
    | false => rw [hc] at hf; cases hf; exact hI
theorem byt_name {k : Nat} {p q : T_laneref1_pen} {s : Str} (h : m_laneref1_pen_name k p s = some q) (hp : Byt p.b) : Byt q.b := by
  unfold m_laneref1_pen_name at h
  obtain ⟨r, h1, h2⟩ := bi_ok h
  obtain ⟨z, _, h2⟩ := bi_ok h2
  cases h2
  refine loopM_pres (fun s => Byt s.2.1) (fun r => Byt r.2.1) (fun s s' hI hf => ?_) (fun s r hI hf => ?_) k _ r hp h1
  · cases hc : !((s.2.2.2 : Str) == []) with
    | false => rw [hc] at hf; cases hf
    | true =>
      rw [hc] at hf
      cases hg : (mGet s.1 s.2.2.2).isSome with
      | true =>
        rw [hg] at hf
        obtain ⟨y, _, hf⟩ := bi_ok hf
        cases hf
      | false =>
        rw [hg] at hf
        obtain ⟨y, _, hf⟩ := bi_ok hf
        obtain ⟨y2, e2, hf⟩ := bi_ok hf
        obtain ⟨y3, e3, hf⟩ := bi_ok hf
        have b2 := byt_put e2 hI
        have b3 := byt_apd e3 b2 (byt_str _)
        cases hr : ((y.2.1 : Str) == []) with
        | true =>
          rw [hr] at hf
          obtain ⟨y4, e4, hf⟩ := bi_ok hf
          cases hf
          exact byt_put e4 b3
        | false => rw [hr] at hf; cases hf; exact b3
  · cases hc : !((s.2.2.2 : Str) == []) with
    | false => rw [hc] at hf; cases hf; exact hI
    | true =>
      rw [hc] at hf
      cases hg : (mGet s.1 s.2.2.2).isSome with
      | true =>
        rw [hg] at hf
        obtain ⟨y, e, hf⟩ := bi_ok hf
        cases hf
        exact byt_put e hI
      | false =>
        rw [hg] at hf
        obtain ⟨y, _, hf⟩ := bi_ok hf
        obtain ⟨y2, e2, hf⟩ := bi_ok hf
        obtain ⟨y3, e3, hf⟩ := bi_ok hf
        cases hr : ((y.2.1 : Str) == []) with
        | true =>
          rw [hr] at hf
          obtain ⟨y4, e4, hf⟩ := bi_ok hf
          cases hf
        | false => rw [hr] at hf; cases hf
theorem byt_message {k : Nat} {m : T_api_Message} {r : List Int} (h : m_laneref1_MessageBytes k m = some r) : Byt r := by
  unfold m_laneref1_MessageBytes at h
  obtain ⟨y1, e1, h⟩ := bi_ok h
  have b1 : Byt y1.b := byt_put e1 (fun x hx => nomatch hx)
  obtain ⟨y2, _, h⟩ := bi_ok h
  obtain ⟨y3, e3, h⟩ := bi_ok h
  have b3 : Byt y3.2 := rangeF_pres (fun s => Byt s.2) (fun i x s s' hI hf => by
    obtain ⟨z, ez, hf⟩ := bi_ok hf
    cases hf
    exact byt_put ez hI) _ _ _ y3 b1 e3
  obtain ⟨y4, e4, h⟩ := bi_ok h
  have b4 : Byt y4.2 := rangeF_pres (fun s => Byt s.2) (fun i x s s' hI hf => by
    obtain ⟨z, ez, hf⟩ := bi_ok hf
    obtain ⟨z2, ez2, hf⟩ := bi_ok hf
    cases hf
    exact byt_put ez2 (byt_name ez hI)) _ _ _ y4 b3 e4
  obtain ⟨y5, e5, h⟩ := bi_ok h
  cases h
  refine rangeF_pres (fun s => Byt s.2) (fun i x s s' hI hf => ?_) _ _ _ y5 b4 e5
  obtain ⟨z1, f1, hf⟩ := bi_ok hf
  obtain ⟨z2, f2, hf⟩ := bi_ok hf
  obtain ⟨z3, f3, hf⟩ := bi_ok hf
  have c3 := byt_put f3 (byt_put f2 (byt_name f1 hI))
  cases k1 : ((x.Kind : Int) == 1) with
  | true =>
    rw [k1] at hf
    obtain ⟨z4, f4, hf⟩ := bi_ok hf
    cases hf
    exact byt_put f4 c3
  | false =>
    rw [k1] at hf
    cases k2 : ((x.Kind : Int) == 28) with
    | true =>
      rw [k2] at hf
      obtain ⟨z4, f4, hf⟩ := bi_ok hf
      obtain ⟨z5, f5, hf⟩ := bi_ok hf
      cases hf
      exact byt_put f5 (byt_put f4 c3)
    | false =>
      rw [k2] at hf
      cases k3 : ((x.Kind : Int) == 16) with
      | true =>
        rw [k3] at hf
        obtain ⟨z4, f4, hf⟩ := bi_ok hf
        obtain ⟨z5, f5, hf⟩ := bi_ok hf
        cases hf
        exact byt_apd f5 (byt_put f4 c3) (byt_str _)
      | false =>
        rw [k3] at hf
        obtain ⟨z4, f4, hf⟩ := bi_ok hf
        cases hf
        exact byt_name f4 c3
end Go.Gk
