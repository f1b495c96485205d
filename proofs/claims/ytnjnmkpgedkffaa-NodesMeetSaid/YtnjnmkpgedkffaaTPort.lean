/-
  The plain law of TranslatorsWork: the search for a port.
-/
import Derived.Test.YtnjnmkpgedkffaaTSpec
set_option linter.unusedVariables false
set_option linter.unusedSimpArgs false
set_option linter.unusedSectionVars false
set_option maxRecDepth 100000
namespace Go.Gk
structure NOk (n : T_api_Nat) : Prop where
  tm : 1 ≤ n.Timeout ∧ n.Timeout ≤ 1000000
  fi : 1 ≤ n.First ∧ n.First ≤ 65535
  po : 1 ≤ n.Ports ∧ n.Ports ≤ 6
  en : n.First + n.Ports ≤ 65536
/-- The port that is tried in round i. -/
def cyc (n : T_api_Nat) (q : Int) (i : Nat) : Int := n.First + (q - n.First + i) % n.Ports
def aft (n : T_api_Nat) (p : Int) : Int := if p = n.First + n.Ports - 1 then n.First else p + 1
theorem cyc_in {n : T_api_Nat} (hn : NOk n) (q : Int) (i : Nat) : n.First ≤ cyc n q i ∧ cyc n q i < n.First + n.Ports := by
  have hp := hn.po
  unfold cyc
  have h1 := Int.emod_nonneg (q - n.First + i) (show n.Ports ≠ 0 by omega)
  have h2 := Int.emod_lt_of_pos (q - n.First + i) (show 0 < n.Ports by omega)
  omega
theorem six {n : T_api_Nat} (hn : NOk n) : n.Ports = 1 ∨ n.Ports = 2 ∨ n.Ports = 3 ∨ n.Ports = 4 ∨ n.Ports = 5 ∨ n.Ports = 6 := by have := hn.po; omega
theorem aft_cyc {n : T_api_Nat} (hn : NOk n) (q : Int) (i : Nat) : aft n (cyc n q i) = cyc n q (i + 1) := by
  unfold aft cyc
  rcases six hn with h | h | h | h | h | h <;> rw [h] <;> split <;> omega
theorem cyc_all {n : T_api_Nat} (hn : NOk n) (q p : Int) (h1 : n.First ≤ p) (h2 : p < n.First + n.Ports) : ∃ i : Nat, i < n.Ports.toNat ∧ cyc n q i = p := by
  have hp := hn.po
  have h3 := Int.emod_nonneg (p - q) (show n.Ports ≠ 0 by omega)
  have h4 := Int.emod_lt_of_pos (p - q) (show 0 < n.Ports by omega)
  refine ⟨((p - q) % n.Ports).toNat, by omega, ?_⟩
  unfold cyc
  rw [Int.toNat_of_nonneg h3]
  clear h3 h4
  rcases six hn with h | h | h | h | h | h <;> rw [h] at h2 ⊢ <;> omega
theorem after_ok (t : T_route_Translator) (hn : NOk t.nat) (p : Int) (h1 : 0 ≤ p) (h2 : p ≤ 65536) : m_route_Translator_after t p = some (aft t.nat p) := by
  have ⟨_, ⟨f1, f2⟩, ⟨p1, p2⟩, _⟩ := hn
  unfold m_route_Translator_after aft
  rw [wi_id (n := t.nat.First + t.nat.Ports) (by omega) (by omega), wi_id (n := t.nat.First + t.nat.Ports - 1) (by omega) (by omega), wi_id (n := p + 1) (by omega) (by omega)]
  by_cases h : p = t.nat.First + t.nat.Ports - 1
  · rw [if_pos h, show (p == t.nat.First + t.nat.Ports - 1) = true by simpa using h]; rfl
  · rw [if_neg h, beq_eq_false_iff_ne.2 h]; rfl
theorem rangeI_first {ρ : Type} {f : Nat → Unit → Option (LS Unit ρ)} (n : Int) (p : Nat → Bool) (v : Nat → ρ) (hf : ∀ i, i < n.toNat → f i () = some (if p i then .out (v i) else .go ())) :
    (∀ i0, i0 < n.toNat → p i0 = true → (∀ j, j < i0 → p j = false) → rangeI f n () = some (.out (v i0))) ∧ ((∀ j, j < n.toNat → p j = false) → rangeI f n () = some (.go ())) := by
  have key : ∀ (m i : Nat), i + m = n.toNat → (∀ i0, i ≤ i0 → i0 < n.toNat → p i0 = true → (∀ j, i ≤ j → j < i0 → p j = false) → rangeM (fun i (_ : Unit) s => f i s) i (List.replicate m ()) () = some (.out (v i0))) ∧ ((∀ j, i ≤ j → j < n.toNat → p j = false) → rangeM (fun i (_ : Unit) s => f i s) i (List.replicate m ()) () = some (.go ())) := by
    intro m
    induction m with
    | zero => intro i hi; exact ⟨fun i0 h1 h2 => by omega, fun _ => rfl⟩
    | succ m ih =>
      intro i hi
      obtain ⟨ih1, ih2⟩ := ih (i + 1) (by omega)
      refine ⟨fun i0 h1 h2 h3 h4 => ?_, fun h => ?_⟩
      · simp only [List.replicate_succ, rangeM, hf i (by omega)]
        by_cases e : i = i0
        · subst e; simp [h3]
        · rw [h4 i (Nat.le_refl _) (by omega)]
          exact ih1 i0 (by omega) h2 h3 fun j h5 h6 => h4 j (by omega) h6
      · simp only [List.replicate_succ, rangeM, hf i (by omega)]
        rw [h i (Nat.le_refl _) (by omega)]
        exact ih2 fun j h5 h6 => h j (by omega) h6
  obtain ⟨k1, k2⟩ := key n.toNat 0 (by omega)
  exact ⟨fun i0 h1 h2 h3 => k1 i0 (Nat.zero_le _) h1 h2 fun j _ => h3 j, fun h => k2 fun j _ => h j⟩
/-- A first place, or none. -/
theorem first_or (p : Nat → Bool) : ∀ N : Nat, (∃ i, i < N ∧ p i = true ∧ ∀ j, j < i → p j = false) ∨ ∀ j, j < N → p j = false
  | 0 => .inr fun j h => absurd h (Nat.not_lt_zero _)
  | N + 1 => by
    rcases first_or p N with ⟨i, h1, h2, h3⟩ | h
    · exact .inl ⟨i, by omega, h2, h3⟩
    · cases hN : p N with
      | true => exact .inl ⟨N, by omega, hN, h⟩
      | false => exact .inr fun j hj => by by_cases e : j = N; exact e ▸ hN; exact h j (by omega)
def rgL (n : T_api_Nat) : List Int := (List.range n.Ports.toNat).map fun (i : Nat) => n.First + (i : Int)
theorem rgL_mem {n : T_api_Nat} {p : Int} : p ∈ rgL n ↔ n.First ≤ p ∧ p < n.First + n.Ports := by
  unfold rgL
  rw [List.mem_map]
  constructor
  · rintro ⟨i, hi, rfl⟩; rw [List.mem_range] at hi; omega
  · rintro ⟨h1, h2⟩; exact ⟨(p - n.First).toNat, by rw [List.mem_range]; omega, by omega⟩
theorem rgL_nodup (n : T_api_Nat) : (rgL n).Nodup := by
  unfold rgL List.Nodup
  rw [List.pairwise_map]
  refine List.Pairwise.imp ?_ (List.nodup_range (n := n.Ports.toNat))
  intro a b h e
  exact h (by omega)
theorem rgL_len (n : T_api_Nat) : (rgL n).length = n.Ports.toNat := by simp [rgL]
/-- All ports are held just when as many entries are held. -/
theorem ports_full {n : T_api_Nat} (hn : NOk n) (q : Int) {l : List Int} (hd : l.Nodup) (hr : ∀ p ∈ l, n.First ≤ p ∧ p < n.First + n.Ports) :
    ((l.length : Int) ≥ n.Ports) ↔ ∀ j : Nat, j < n.Ports.toNat → cyc n q j ∈ l := by
  have hp := hn.po
  constructor
  · intro h j hj
    apply Classical.byContradiction
    intro hc
    have := nodup_le (l := cyc n q j :: l) (m := rgL n) (List.nodup_cons.2 ⟨hc, hd⟩) fun x hx => by
      rcases List.mem_cons.1 hx with rfl | hx
      · exact rgL_mem.2 (cyc_in hn q j)
      · exact rgL_mem.2 (hr x hx)
    rw [rgL_len, List.length_cons] at this
    omega
  · intro h
    have := nodup_le (l := rgL n) (m := l) (rgL_nodup n) fun x hx => by
      have ⟨h1, h2⟩ := rgL_mem.1 hx
      obtain ⟨i, h3, h4⟩ := cyc_all hn q x h1 h2
      exact h4 ▸ h i h3
    rw [rgL_len] at this
    omega
theorem freeP_ok (k : Nat) (t : T_route_Translator) (hn : NOk t.nat) (q : Int) (hq : t.v_next = cyc t.nat q 0) (hl : t.list.length ≤ 4294967296) (i0 : Nat) (hi : i0 < 6) (hk : 10 ≤ k)
    (h1 : (t.list.any fun e => e.port == cyc t.nat q i0) = false) (h2 : ∀ j, j < i0 → (t.list.any fun e => e.port == cyc t.nat q j) = true) :
    m_route_Translator_free k t = some (cyc t.nat q i0, ⟨t.nat, t.now, cyc t.nat q (i0 + 1), t.list⟩) := by
  have hb : ∀ j, 0 ≤ cyc t.nat q j ∧ cyc t.nat q j ≤ 65536 := fun j => by have := cyc_in hn q j; have := hn.fi; have := hn.en; omega
  have key : ∀ (d j k : Nat), j + d = i0 → d < k → loopM (σ := Int) (ρ := Int) (fun s2 => bi (m_slices_ContainsFunc_route_entry_route_entry t.list s2) fun y11 => bif y11 then (bi (m_route_Translator_after t s2) fun y14 => some (.go y14)) else (some (.out s2))) k (cyc t.nat q j) = some (cyc t.nat q i0) := by
    intro d
    induction d with
    | zero =>
      intro j k h3 h4
      obtain ⟨k, rfl⟩ : ∃ k', k = k' + 1 := ⟨k - 1, by omega⟩
      have : j = i0 := by omega
      subst this
      unfold loopM
      rw [hasPort_ok _ _ hl, h1]
      rfl
    | succ d ih =>
      intro j k h3 h4
      obtain ⟨k, rfl⟩ : ∃ k', k = k' + 1 := ⟨k - 1, by omega⟩
      unfold loopM
      rw [hasPort_ok _ _ hl, h2 j (by omega)]
      simp only [bi_some, cond_true]
      rw [after_ok t hn _ (hb j).1 (hb j).2, aft_cyc hn]
      exact ih (j + 1) k (by omega) (by omega)
  unfold m_route_Translator_free
  rw [hq, key i0 0 k (by omega) (by omega)]
  simp only [bi_some]
  rw [after_ok t hn _ (hb i0).1 (hb i0).2, aft_cyc hn]
  rfl
/-- The reference's search. -/
theorem hasPortR_ok (B : List (Tl T_laneref1_sent)) (p : Int) (hl : B.length ≤ 4294967296) (hB : ∀ e ∈ B, okG e.2) : m_slices_ContainsFunc_laneref1_sent_laneref1_sent B p = some (B.any fun e => (g0 e.2).port == p) := by
  unfold m_slices_ContainsFunc_laneref1_sent_laneref1_sent m_slices_IndexFunc_laneref1_sent_laneref1_sent_3
  rw [small_gd hl, gd_true, bi_rangeI_ix (fun e : Tl T_laneref1_sent => (g0 e.2).port == p) B]
  · simp only [bi_some, ixZ_ge]
  · intro j x hx
    simp only [getZ_cast, hx, bi_some, m_laneref1_Translator_Out_1]
    rw [g0_at (hB x (List.mem_of_getElem? hx)).1]
    simp only [bi_some]
    cases ((g0 x.2).port == p) <;> rfl
theorem searchR_ok (n : T_api_Nat) (hn : NOk n) (q : Int) (hq : n.First ≤ q ∧ q ≤ n.First + n.Ports) (B : List (Tl T_laneref1_sent)) (hl : B.length ≤ 4294967296) (hB : ∀ e ∈ B, okG e.2) :
    (∀ i0, i0 < n.Ports.toNat → (B.any fun e => (g0 e.2).port == cyc n q i0) = false → (∀ j, j < i0 → (B.any fun e => (g0 e.2).port == cyc n q j) = true) →
      rangeI (σ := Unit) (ρ := Int) (fun i54 s55 => bi (remZ (wi ((wi (q - n.First)) + (i54 : Int))) n.Ports) fun y68 => bi (m_slices_ContainsFunc_laneref1_sent_laneref1_sent B (wi (n.First + y68))) fun y70 => bif !y70 then (some (.out (wi (n.First + y68)))) else (some (.go ()))) n.Ports () = some (.out (cyc n q i0))) ∧
    ((∀ j, j < n.Ports.toNat → (B.any fun e => (g0 e.2).port == cyc n q j) = true) →
      rangeI (σ := Unit) (ρ := Int) (fun i54 s55 => bi (remZ (wi ((wi (q - n.First)) + (i54 : Int))) n.Ports) fun y68 => bi (m_slices_ContainsFunc_laneref1_sent_laneref1_sent B (wi (n.First + y68))) fun y70 => bif !y70 then (some (.out (wi (n.First + y68)))) else (some (.go ()))) n.Ports () = some (.go ())) := by
  have ⟨_, ⟨f1, f2⟩, ⟨p1, p2⟩, he⟩ := hn
  obtain ⟨h1, h2⟩ := rangeI_first (ρ := Int) (f := fun i54 s55 => bi (remZ (wi ((wi (q - n.First)) + (i54 : Int))) n.Ports) fun y68 => bi (m_slices_ContainsFunc_laneref1_sent_laneref1_sent B (wi (n.First + y68))) fun y70 => bif !y70 then (some (.out (wi (n.First + y68)))) else (some (.go ()))) n.Ports
    (fun i => !(B.any fun e => (g0 e.2).port == cyc n q i)) (fun i => cyc n q i) (by
      intro i hi
      have h3 := cyc_in hn q i
      have h0 : 0 ≤ q - n.First + i := by omega
      rw [wi_id (n := q - n.First) (by omega) (by omega), wi_id (n := q - n.First + i) (by omega) (by omega)]
      unfold remZ
      rw [decide_eq_false (show ¬ n.Ports = 0 by omega)]
      simp only [cond_false, bi_some]
      rw [Int.tmod_eq_emod_of_nonneg h0, show n.First + (q - n.First + i) % n.Ports = cyc n q i from rfl, wi_id (by omega) (by omega), hasPortR_ok B _ hl hB]
      simp only [bi_some]
      cases (B.any fun e => (g0 e.2).port == cyc n q i) <;> rfl)
  exact ⟨fun i0 h3 h4 h5 => h1 i0 h3 (by rw [h4]; rfl) fun j hj => by rw [h5 j hj]; rfl, fun h => h2 fun j hj => by rw [h j hj]; rfl⟩
end Go.Gk
