/-
  The plain law of NodesMeet: In.
-/
import Derived.Test.YtnjnmkpgedkffaaVInv
set_option linter.unusedVariables false
set_option linter.unusedSimpArgs false
set_option linter.unusedSectionVars false
set_option maxRecDepth 100000
namespace Go.Gk
theorem rangeM_find {α ρ : Type} {f : Nat → α → Unit → Option (LS Unit ρ)} (p : α → Bool) (v : α → ρ) : ∀ (l : List α) (i : Nat), (∀ (j : Nat) x, x ∈ l → f j x () = some (if p x then .out (v x) else .go ())) →
    rangeM f i l () = some (match l.find? p with | some x => .out (v x) | none => .go ())
  | [], i, _ => rfl
  | x :: l, i, h => by
    have h0 := h i x List.mem_cons_self
    have ih := rangeM_find p v l (i + 1) fun j y hy => h j y (List.mem_cons_of_mem _ hy)
    simp only [rangeM, h0, List.find?_cons]
    cases hp : p x with
    | true => simp
    | false => simp only [Bool.false_eq_true, if_false, ih]
theorem rangeI_find {α ρ : Type} {f : Nat → Unit → Option (LS Unit ρ)} (p : α → Bool) (v : α → ρ) (l : List α) (h : ∀ (j : Nat) x, l[j]? = some x → f j () = some (if p x then .out (v x) else .go ())) :
    rangeI f (l.length : Int) () = some (match l.find? p with | some x => .out (v x) | none => .go ()) := by
  rw [rangeI_L (g := fun j x _ => some (if p x then .out (v x) else .go ())) l (fun j x s hx => h j x hx)]
  exact rangeM_find p v l 0 fun _ _ _ => rfl
theorem F2.find {α β : Type} {R : α → β → Prop} {p : α → Bool} {q : β → Bool} {l : List α} {m : List β} (h : F2 R l m) (hp : ∀ a b, R a b → p a = q b) : (l.find? p = none ∧ m.find? q = none) ∨ ∃ a b, l.find? p = some a ∧ m.find? q = some b ∧ R a b := by
  induction h with
  | nil => exact .inl ⟨rfl, rfl⟩
  | @cons a b l m hr _ ih =>
    simp only [List.find?_cons, hp a b hr]
    cases hq : q b with
    | true => exact .inr ⟨a, b, rfl, rfl, hr⟩
    | false => exact ih
def letP (k : Int) (s : T_api_Spot) (f : T_api_Spot) : Bool := decide (seenS s k = seenS f k)
theorem containsF_ok (l : List T_api_Spot) (t : T_route_Translator) (f : T_api_Spot) : m_slices_ContainsFunc_api_Spot_api_Spot l t f = some (l.any fun s => letP t.nat.Lets s f) := by
  unfold m_slices_ContainsFunc_api_Spot_api_Spot m_slices_IndexFunc_api_Spot_api_Spot
  rw [bi_rangeM_ix (fun s => letP t.nat.Lets s f) l]
  · simp only [bi_some, ixZ_ge]
  · intro j x hx
    unfold m_route_Translator_In_1
    simp only [seen_ok, bi_some]
    rw [spot_eq]
    unfold letP
    cases decide (seenS x t.nat.Lets = seenS f t.nat.Lets) <;> rfl
theorem in1R_ok (s : T_laneref1_sent) (t : T_laneref1_Translator) (f : T_api_Spot) : m_laneref1_Translator_In_1 s t f = some (letP t.n.Lets s.to f) := by
  unfold m_laneref1_Translator_In_1 letP seenS
  rw [addr_eq]
  congr 1
  by_cases h1 : t.n.Lets = 1
  · simp [h1]
  · by_cases h2 : t.n.Lets = 2
    · simp [h1, h2]
    · simp only [beq_eq_false_iff_ne.2 h1, beq_eq_false_iff_ne.2 h2, h1, h2, if_false, Bool.false_or]
      rw [Bool.eq_iff_iff]
      cases s.to; cases f
      simp
theorem containsR_ok (l : List T_laneref1_sent) (t : T_laneref1_Translator) (f : T_api_Spot) : m_slices_ContainsFunc_laneref1_sent_laneref1_sent_2 l t f = some (l.any fun s => letP t.n.Lets s.to f) := by
  unfold m_slices_ContainsFunc_laneref1_sent_laneref1_sent_2 m_slices_IndexFunc_laneref1_sent_laneref1_sent_4
  rw [bi_rangeM_ix (fun s : T_laneref1_sent => letP t.n.Lets s.to f) l]
  · simp only [bi_some, ixZ_ge]
  · intro j x hx
    rw [in1R_ok]
    simp only [bi_some]
    cases letP t.n.Lets x.to f <;> rfl
section
variable {n : T_api_Nat} {ts : List Nat} {al : List Bool} {L : List T_route_entry} {nx : Int} {out : List T_laneref1_sent} {last now : Int} {c : Nat}
theorem in_sep (h : Inv n ts al L nx out last now c) (hc : c < 50) (k : Nat) (hk : 100 ≤ k) (v_at : Int) (f : T_api_Spot) (port : Int) (hf : 0 ≤ f.Addr.Hi) :
    ∃ sp ok er L' now', m_route_Translator_In k ⟨n, now, nx, L⟩ v_at f port = some (sp, ok, er, ⟨n, now', nx, L'⟩) ∧
      (∀ alR, ∃ alR', m_laneref1_Translator_In k ⟨n, out, last, now⟩ v_at f port alR = some (sp, ok, er, ⟨n, out, last, now'⟩, alR')) ∧ Inv n ts al L' nx out last now' c := by
  have hll := h.ll
  have hol := h.len
  have hoke : ∀ e ∈ L, okE e := fun e he => (h.oke e he).1
  unfold m_route_Translator_In m_laneref1_Translator_In
  rw [tfP, tfR, sfP, sfR f hf, pfP, in_ok]
  simp only [bi_some]
  by_cases h1 : tfZ v_at now = 0
  · obtain ⟨b1, b2, b3⟩ := tf0 h1
    by_cases h2 : sfZ f = 0
    · rw [orE_ok]
      simp only [h1, h2, bne_self_eq_false, cond_false, List.find?_cons, List.find?_nil, Option.getD_none, bi_some]
      by_cases h3 : 1 ≤ port ∧ port ≤ 65535
      · have hp : pfZ port = 0 := by unfold pfZ; rw [if_pos h3]
        simp only [hp, bne_self_eq_false, cond_false, decide_eq_true h3, Bool.not_true]
        rw [pass_ok k ⟨n, now, nx, L⟩ v_at b1 b2 (by simp only; omega) (by simp only; omega) hoke]
        have hon := h.on b3 b2
        have hl1 := hon.ll
        simp only [bi_some]
        rw [small_gd (by omega), gd_true]
        rw [rangeI_find (fun e : T_route_entry => e.port == port && (n.Lets == 1 || e.sent.2.any fun s => letP n.Lets s f)) (fun e => ((e.inner, true, 0, ⟨n, v_at, nx, L.filter (frE n v_at)⟩) : T_api_Spot × Bool × Int × T_route_Translator)) (L.filter (frE n v_at)) (by
          intro j x hx
          simp only [getZ_cast, hx, bi_some, containsF_ok]
          cases hpp : (x.port == port) with
          | false =>
            have : (x.port != port) = true := by unfold bne; rw [hpp]; rfl
            rw [this]; rfl
          | true =>
            have : (x.port != port) = false := by unfold bne; rw [hpp]; rfl
            rw [this]
            cases (n.Lets == 1) <;> cases (x.sent.2.any fun s => letP n.Lets s f) <;> rfl)]
        have hR : ∀ alR, ∃ alR', ∃ B : List (Tl T_laneref1_sent), m_laneref1_Translator_lasting k ⟨n, out, last, v_at⟩ v_at alR = some (B, alR') ∧ B.map (·.2) = (bld n out).filter (frG n v_at) ∧ B.length ≤ c ∧ ∀ e ∈ B, e.2 ≠ [] := fun alR => by
          obtain ⟨B, al2, q1, q2, q3⟩ := lastingR_ok k ⟨n, out, last, v_at⟩ v_at alR b1 b2 (by simp only; omega) (by simp only; omega) h.ats
          simp only at q2
          refine ⟨al2, B, q1, q2, ?_, fun e he => ?_⟩
          · have hBl : B.length = (L.filter (frE n v_at)).length := by rw [hon.f2.len, ← q2, List.length_map]
            rw [hBl]; exact hl1
          · have : e.2 ∈ (bld n out).filter (frG n v_at) := by rw [← q2]; exact List.mem_map_of_mem he
            exact (bld_mem n out _ (List.mem_filter.1 this).1).1
        have hfd := hon.f2.find (p := fun e : T_route_entry => e.port == port && (n.Lets == 1 || e.sent.2.any fun s => letP n.Lets s f)) (q := fun g => (g0 g).port == port && g.any fun s => letP n.Lets s.to f) (by
          intro e g hr
          rw [hr.prt]
          congr 1
          have ha : (e.sent.2.any fun s => letP n.Lets s f) = g.any fun s => letP n.Lets s.to f := by
            rw [Bool.eq_iff_iff, List.any_eq_true, List.any_eq_true]
            constructor
            · rintro ⟨s, hs, h4⟩
              obtain ⟨x, hx, rfl⟩ := (hr.snt s).1 hs
              exact ⟨x, hx, h4⟩
            · rintro ⟨x, hx, h4⟩
              exact ⟨x.to, (hr.snt _).2 ⟨x, hx, rfl⟩, h4⟩
          rw [ha]
          by_cases hl : n.Lets = 1
          · have : (g.any fun s => letP n.Lets s.to f) = true := List.any_eq_true.2 ⟨_, g0_mem hr.ne, by unfold letP seenS; rw [hl]; simp⟩
            rw [this, Bool.or_true]
          · rw [beq_eq_false_iff_ne.2 hl, Bool.false_or])
        rcases hfd with ⟨h4, h5⟩ | ⟨e, g, h4, h5, h6⟩
        · refine ⟨zSpot, false, 0, L.filter (frE n v_at), v_at, by rw [h4]; rfl, fun alR => ?_, hon⟩
          obtain ⟨alR', B, q1, q2, q3, hne⟩ := hR alR
          refine ⟨alR', ?_⟩
          rw [← q2, List.find?_map, Option.map_eq_none_iff] at h5
          have h5' : B.find? (fun e : Tl T_laneref1_sent => (g0 e.2).port == port && e.2.any fun s => letP n.Lets s.to f) = none := h5
          rw [q1]
          simp only [bi_some]
          rw [small_gd (by omega), gd_true]
          rw [rangeI_find (fun e : Tl T_laneref1_sent => (g0 e.2).port == port && e.2.any fun s => letP n.Lets s.to f) (fun e => (((g0 e.2).v_from, true, 0, ⟨n, out, last, v_at⟩, alR') : T_api_Spot × Bool × Int × T_laneref1_Translator × List Bool)) B (fun j x hx => by
            simp only [getZ_cast, hx, bi_some]
            rw [containsR_ok, g0_at (hne x (List.mem_of_getElem? hx))]
            simp only [bi_some]
            cases ((g0 x.2).port == port) <;> cases (x.2.any fun s => letP n.Lets s.to f) <;> rfl), h5']
          rfl
        · refine ⟨e.inner, true, 0, L.filter (frE n v_at), v_at, by rw [h4]; rfl, fun alR => ?_, hon⟩
          obtain ⟨alR', B, q1, q2, q3, hne⟩ := hR alR
          refine ⟨alR', ?_⟩
          rw [← q2, List.find?_map, Option.map_eq_some_iff] at h5
          obtain ⟨x, h5, rfl⟩ := h5
          have h5' : B.find? (fun e : Tl T_laneref1_sent => (g0 e.2).port == port && e.2.any fun s => letP n.Lets s.to f) = some x := h5
          rw [q1]
          simp only [bi_some]
          rw [small_gd (by omega), gd_true]
          rw [rangeI_find (fun e : Tl T_laneref1_sent => (g0 e.2).port == port && e.2.any fun s => letP n.Lets s.to f) (fun e => (((g0 e.2).v_from, true, 0, ⟨n, out, last, v_at⟩, alR') : T_api_Spot × Bool × Int × T_laneref1_Translator × List Bool)) B (fun j x hx => by
            simp only [getZ_cast, hx, bi_some]
            rw [containsR_ok, g0_at (hne x (List.mem_of_getElem? hx))]
            simp only [bi_some]
            cases ((g0 x.2).port == port) <;> cases (x.2.any fun s => letP n.Lets s.to f) <;> rfl), h5']
          simp only [bi_some, goI_out]
          rw [h6.inn]
      · have hp : pfZ port = 1 := by unfold pfZ; rw [if_neg h3]
        refine ⟨zSpot, false, 1, L, now, ?_, fun alR => ⟨alR, ?_⟩, h⟩
        · rw [hp]; rfl
        · rw [decide_eq_false h3]; rfl
    · refine ⟨zSpot, false, sfZ f, L, now, ?_, fun alR => ⟨alR, ?_⟩, h⟩
      · rw [h1, bne_iff_ne.2 h2]; rfl
      · rw [orE_ok]; simp [h1, bne_iff_ne.2 h2]
  · refine ⟨zSpot, false, tfZ v_at now, L, now, ?_, fun alR => ⟨alR, ?_⟩, h⟩
    · rw [bne_iff_ne.2 h1]; rfl
    · rw [orE_ok]; simp [bne_iff_ne.2 h1]
end
end Go.Gk
