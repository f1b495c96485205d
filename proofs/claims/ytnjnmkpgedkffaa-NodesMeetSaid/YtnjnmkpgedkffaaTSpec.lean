/-
  The plain law of TranslatorsWork: what each function gives.
-/
import Derived.Test.YtnjnmkpgedkffaaTList
set_option linter.unusedVariables false
set_option linter.unusedSimpArgs false
set_option linter.unusedSectionVars false
set_option maxRecDepth 100000
namespace Go.Gk
abbrev zSpot : T_api_Spot := ⟨(⟨false, 0, 0⟩ : T_api_Addr), 0⟩
def seenS (s : T_api_Spot) (k : Int) : T_api_Spot := if k = 1 then zSpot else if k = 2 then ⟨s.Addr, 0⟩ else s
theorem seen_ok (s : T_api_Spot) (k : Int) : m_route_seen s k = some (seenS s k) := by
  unfold m_route_seen seenS
  by_cases h1 : k = 1
  · subst h1; rfl
  · by_cases h2 : k = 2
    · subst h2; rfl
    · simp [h1, h2, beq_eq_false_iff_ne.2 h1, beq_eq_false_iff_ne.2 h2]
theorem addr_eq (a b : T_api_Addr) : ((a.Six == b.Six) && ((a.Hi == b.Hi) && ((a.Lo == b.Lo) && true))) = decide (a = b) := by
  cases a; cases b
  rw [Bool.eq_iff_iff]
  simp
theorem spot_eq (a b : T_api_Spot) : (((a.Addr.Six == b.Addr.Six) && ((a.Addr.Hi == b.Addr.Hi) && ((a.Addr.Lo == b.Addr.Lo) && true))) && ((a.Port == b.Port) && true)) = decide (a = b) := by
  rw [addr_eq]
  cases a; cases b
  rw [Bool.eq_iff_iff]
  simp
theorem same_ok (t : T_laneref1_Translator) (a b : T_api_Spot) : m_laneref1_Translator_same t a b = some (decide (seenS a t.n.Maps = seenS b t.n.Maps)) := by
  unfold m_laneref1_Translator_same seenS
  rw [spot_eq, addr_eq]
  by_cases h1 : t.n.Maps = 1
  · simp [h1]
  · by_cases h2 : t.n.Maps = 2
    · simp [h1, h2]
    · simp [h1, h2, beq_eq_false_iff_ne.2 h1, beq_eq_false_iff_ne.2 h2]
/-! ### Faults -/
def tfZ (v_at now : Int) : Int := if 0 ≤ v_at ∧ v_at < 345686400 then (if v_at < now then 7 else 0) else 1
theorem tfP (t : T_route_Translator) (v_at : Int) : m_route_Translator_timeFault t v_at = some (tfZ v_at t.now) := by
  unfold m_route_Translator_timeFault m_route_momentFault m_kit_IsMoment tfZ
  simp only [bi_some]
  by_cases h1 : 0 ≤ v_at ∧ v_at < 345686400
  · rw [decide_eq_true (show v_at ≥ 0 from h1.1), decide_eq_true h1.2, if_pos h1]
    by_cases h2 : v_at < t.now
    · simp [h2]
    · simp [h2]
  · rw [if_neg h1]
    have : (decide (v_at ≥ 0) && decide (v_at < 345686400)) = false := by
      rw [Bool.and_eq_false_iff]; by_cases h : v_at ≥ 0
      · right; simp; omega
      · left; simpa using h
    rw [this]; rfl
theorem tfR (t : T_laneref1_Translator) (v_at : Int) : m_laneref1_Translator_timeFault t v_at = some (tfZ v_at t.now) := by
  unfold m_laneref1_Translator_timeFault m_laneref2_Moment m_laneref2_in tfZ
  simp only [bi_some]
  by_cases h1 : 0 ≤ v_at ∧ v_at < 345686400
  · rw [decide_eq_true (show 0 ≤ v_at from h1.1), decide_eq_true (show v_at ≤ 345686399 by omega), if_pos h1]
    by_cases h2 : v_at < t.now
    · simp [h2]
    · simp [h2]
  · rw [if_neg h1]
    have : (decide (0 ≤ v_at) && decide (v_at ≤ 345686399)) = false := by
      rw [Bool.and_eq_false_iff]; by_cases h : v_at ≥ 0
      · right; simp; omega
      · left; simpa using h
    rw [this]; rfl
theorem tf0 {v_at now : Int} (h : tfZ v_at now = 0) : 0 ≤ v_at ∧ v_at < 345686400 ∧ now ≤ v_at := by
  unfold tfZ at h
  by_cases h1 : 0 ≤ v_at ∧ v_at < 345686400
  · rw [if_pos h1] at h
    by_cases h2 : v_at < now
    · rw [if_pos h2] at h; omega
    · omega
  · rw [if_neg h1] at h; omega
def afZ (a : T_api_Addr) : Int := if a.Six = false ∧ (a.Hi ≠ 0 ∨ a.Lo ≥ 4294967296) then 3 else 0
theorem afP (a : T_api_Addr) : m_addr_CheckAddr a = some (afZ a) := by
  unfold m_addr_CheckAddr afZ
  cases h : a.Six
  · by_cases h2 : a.Hi = 0
    · by_cases h3 : a.Lo ≥ 4294967296
      · simp [h2, h3]
      · simp [h2, h3]
    · simp [h2, bne_iff_ne.2 h2]
  · simp
theorem afR (a : T_api_Addr) (h0 : 0 ≤ a.Hi) : m_laneref2_AddrFault a = some (afZ a) := by
  unfold m_laneref2_AddrFault afZ
  cases h : a.Six
  · by_cases h2 : a.Hi = 0
    · by_cases h3 : a.Lo ≥ 4294967296
      · simp [h2, h3, show (4294967295 : Int) < a.Lo by omega]
      · simp [h2, h3, show ¬ (4294967295 : Int) < a.Lo by omega]
    · simp [h2, show (0 : Int) < a.Hi by omega]
  · simp
def pfZ (n : Int) : Int := if 1 ≤ n ∧ n ≤ 65535 then 0 else 1
theorem out_ok (n a b : Int) : m_kit_Outside n a b = some (!decide (a ≤ n ∧ n ≤ b)) := by
  unfold m_kit_Outside
  congr 1
  rw [Bool.eq_iff_iff]
  simp
theorem in_ok (n a b : Int) : m_laneref1_in n a b = some (decide (a ≤ n ∧ n ≤ b)) := by
  unfold m_laneref1_in
  congr 1
  rw [Bool.eq_iff_iff]
  simp
theorem pfP (n : Int) : m_route_portFault n = some (pfZ n) := by
  unfold m_route_portFault pfZ
  rw [out_ok]
  by_cases h : 1 ≤ n ∧ n ≤ 65535
  · simp [h]
  · simp only [h, decide_false, bi_some, Bool.not_false, cond_true, if_false]
def sfZ (s : T_api_Spot) : Int := if afZ s.Addr ≠ 0 then afZ s.Addr else pfZ s.Port
theorem sfP (s : T_api_Spot) : m_route_spotFault s = some (sfZ s) := by
  unfold m_route_spotFault sfZ
  rw [afP, pfP]
  by_cases h : afZ s.Addr = 0
  · simp [h]
  · simp [h, bne_iff_ne.2 h]
theorem sfR (s : T_api_Spot) (h0 : 0 ≤ s.Addr.Hi) : m_laneref1_SpotFault s = some (sfZ s) := by
  unfold m_laneref1_SpotFault sfZ pfZ
  rw [afR _ h0, in_ok]
  by_cases h : afZ s.Addr = 0
  · by_cases h2 : 1 ≤ s.Port ∧ s.Port ≤ 65535
    · simp [h, h2]
    · simp only [h, h2, decide_false, bi_some, Bool.not_false, cond_true, if_false]; simp
  · simp [h, bne_iff_ne.2 h]
theorem orE_ok : ∀ (l : List Int), m_cmp_Or_api_Errno l = some ((l.find? (· != 0)).getD 0)
  | [] => rfl
  | x :: l => by
    have ih := orE_ok l
    unfold m_cmp_Or_api_Errno at ih ⊢
    have key : ∀ (m : List Int) (i : Nat), (bi (rangeM (σ := Unit) (ρ := Int) (fun i1 x3 s2 => bif (x3 : Int) != 0 then (bi (some x3) fun v => some (.out v)) else (some (.go ()))) i m ()) fun q => goI q fun a6 => some 0) = some ((m.find? (· != 0)).getD 0) := by
      intro m
      induction m with
      | nil => intro i; rfl
      | cons y m ih =>
        intro i
        cases hy : (y != 0) with
        | true => simp [rangeM, hy]
        | false =>
          simp only [rangeM, hy, cond_false, List.find?_cons]
          exact ih (i + 1)
    exact key (x :: l) 0
/-! ### The program's entries -/
def frE (n : T_api_Nat) (v_at : Int) (e : T_route_entry) : Bool := decide (v_at - e.last < n.Timeout)
def kyE (n : T_api_Nat) (v_from to : T_api_Spot) (e : T_route_entry) : Bool := decide (e.inner = v_from) && decide (e.dep = seenS to n.Maps)
def okE (e : T_route_entry) : Prop := 0 ≤ e.last ∧ e.last < 345686400
theorem wi_sub {a b : Int} (h0 : 0 ≤ a) (h1 : a < 345686400) (h2 : 0 ≤ b) (h3 : b < 345686400) : wi (a - b) = a - b := wi_id (by omega) (by omega)
theorem small_gd {n : Nat} (h : n ≤ 4294967296) : decide ((n : Int) ≤ 9223372036854775807) = true := decide_eq_true (by omega)
theorem lasting_ok (t : T_route_Translator) (v_at : Int) (h0 : 0 ≤ v_at) (h1 : v_at < 345686400) (hl : t.list.length ≤ 4294967296) (he : ∀ e ∈ t.list, okE e) :
    m_route_Translator_lasting t v_at = some ((t.list.filter (frE t.nat v_at)).length : Int) := by
  unfold m_route_Translator_lasting
  rw [small_gd hl, gd_true]
  have key : ∀ v, (∃ r, rangeG (σ := Int) (fun i1 s2 => bi (getZ t.list (i1 : Int)) fun x13 => bif decide ((wi (v_at - x13.last) : Int) < t.nat.Timeout) then (some (wi (s2 + 1))) else (some s2)) (t.list.length : Int) 0 = some r ∧ r = v) → (bi (rangeG (σ := Int) (fun i1 s2 => bi (getZ t.list (i1 : Int)) fun x13 => bif decide ((wi (v_at - x13.last) : Int) < t.nat.Timeout) then (some (wi (s2 + 1))) else (some s2)) (t.list.length : Int) 0) fun q4 => some q4) = some v := by
    rintro v ⟨r, h, rfl⟩; rw [h]; rfl
  refine key _ ?_
  obtain ⟨r, h2, h3⟩ := rangeG_at (n := (t.list.length : Int)) (s := (0 : Int)) (f := fun i1 s2 => bi (getZ t.list (i1 : Int)) fun x13 => bif decide ((wi (v_at - x13.last) : Int) < t.nat.Timeout) then (some (wi (s2 + 1))) else (some s2))
    (fun i s => s = (((t.list.take i).filter (frE t.nat v_at)).length : Int)) rfl (by
      intro i s hi hs
      rw [Int.toNat_natCast] at hi
      have hx := List.getElem?_eq_getElem hi
      have hm := he _ (List.getElem_mem hi)
      simp only [getZ_cast, hx, bi_some]
      rw [wi_sub h0 h1 hm.1 hm.2, show t.list.take (i + 1) = t.list.take i ++ [t.list[i]] by rw [List.take_add_one, hx]; rfl, List.filter_append, List.length_append]
      have hle : ((t.list.take i).filter (frE t.nat v_at)).length ≤ i := Nat.le_trans (List.length_filter_le _ _) (by rw [List.length_take]; omega)
      by_cases hc : v_at - t.list[i].last < t.nat.Timeout
      · rw [decide_eq_true hc]
        refine ⟨_, rfl, ?_⟩
        subst hs
        rw [wi_id (by omega) (by omega), List.filter_cons, show frE t.nat v_at t.list[i] = true from decide_eq_true hc]
        simp
      · rw [decide_eq_false hc]
        refine ⟨_, rfl, ?_⟩
        subst hs
        rw [List.filter_cons, show frE t.nat v_at t.list[i] = false from decide_eq_false hc]
        simp)
  refine ⟨r, h2, ?_⟩
  rw [h3, Int.toNat_natCast, List.take_of_length_le (Nat.le_refl _)]
theorem find_1_ok (x : T_route_entry) (v_from to : T_api_Spot) (v_at : Int) (t : T_route_Translator) (h0 : 0 ≤ v_at) (h1 : v_at < 345686400) (he : okE x) :
    m_route_Translator_find_1 x v_from (seenS to t.nat.Maps) v_at t = some (kyE t.nat v_from to x && frE t.nat v_at x) := by
  unfold m_route_Translator_find_1 kyE frE
  rw [spot_eq, spot_eq, wi_sub h0 h1 he.1 he.2]
  cases decide (x.inner = v_from) <;> cases decide (x.dep = seenS to t.nat.Maps) <;> rfl
theorem find_ok (t : T_route_Translator) (v_at : Int) (v_from to : T_api_Spot) (h0 : 0 ≤ v_at) (h1 : v_at < 345686400) (hl : t.list.length ≤ 4294967296) (he : ∀ e ∈ t.list, okE e) :
    m_route_Translator_find t v_at v_from to = some (ixZ (fun e => kyE t.nat v_from to e && frE t.nat v_at e) t.list) := by
  unfold m_route_Translator_find m_slices_IndexFunc_route_entry_route_entry
  rw [seen_ok]
  simp only [bi_some]
  rw [small_gd hl, gd_true, bi_rangeI_ix (fun e => kyE t.nat v_from to e && frE t.nat v_at e) t.list]
  · rfl
  · intro j x hx
    simp only [getZ_cast, hx, bi_some]
    rw [find_1_ok x v_from to v_at t h0 h1 (he x (List.mem_of_getElem? hx))]
    simp only [bi_some]
    cases (kyE t.nat v_from to x && frE t.nat v_at x) <;> rfl
theorem pass_ok (k : Nat) (t : T_route_Translator) (v_at : Int) (h0 : 0 ≤ v_at) (h1 : v_at < 345686400) (hl : t.list.length ≤ 4294967296) (hk : t.list.length < k) (he : ∀ e ∈ t.list, okE e) :
    m_route_Translator_pass k t v_at = some ⟨t.nat, v_at, t.v_next, t.list.filter (frE t.nat v_at)⟩ := by
  have h1' : ∀ x ∈ t.list, m_route_Translator_pass_1 x v_at (⟨t.nat, v_at, t.v_next, []⟩ : T_route_Translator) = some (!frE t.nat v_at x) := by
    intro x hx
    unfold m_route_Translator_pass_1 frE
    rw [wi_sub h0 h1 (he x hx).1 (he x hx).2]
    congr 1
    rw [Bool.eq_iff_iff]; simp
  have hix : m_slices_IndexFunc_route_entry_route_entry_2 t.list v_at (⟨t.nat, v_at, t.v_next, []⟩ : T_route_Translator) = some (ixZ (fun x => !frE t.nat v_at x) t.list) := by
    unfold m_slices_IndexFunc_route_entry_route_entry_2
    rw [small_gd hl, gd_true, bi_rangeI_ix (fun x => !frE t.nat v_at x) t.list]
    intro j x hx
    simp only [getZ_cast, hx, bi_some]
    rw [h1' x (List.mem_of_getElem? hx)]
    simp only [bi_some]
    cases frE t.nat v_at x <;> rfl
  unfold m_route_Translator_pass m_slices_DeleteFunc_route_entry_route_entry
  rw [hix]
  simp only [bi_some]
  rw [del_ok (fun x => !frE t.nat v_at x) (fun x => m_route_Translator_pass_1 x v_at (⟨t.nat, v_at, t.v_next, []⟩ : T_route_Translator)) t.list k h1' hl hk]
  simp
theorem hasPort_ok (l : List T_route_entry) (p : Int) (hl : l.length ≤ 4294967296) : m_slices_ContainsFunc_route_entry_route_entry l p = some (l.any fun e => e.port == p) := by
  unfold m_slices_ContainsFunc_route_entry_route_entry m_slices_IndexFunc_route_entry_route_entry_3
  rw [small_gd hl, gd_true, bi_rangeI_ix (fun e => e.port == p) l]
  · simp only [bi_some, ixZ_ge]
  · intro j x hx
    simp only [getZ_cast, hx, bi_some, m_route_Translator_free_1]
    cases (x.port == p) <;> rfl
theorem contains_ok (l : List T_api_Spot) (v : T_api_Spot) : m_slices_Contains_api_Spot_api_Spot l v = some (decide (v ∈ l)) := by
  unfold m_slices_Contains_api_Spot_api_Spot m_slices_Index_api_Spot_api_Spot
  rw [bi_rangeM_ix (fun e => decide (v = e)) l]
  · simp only [bi_some, ixZ_ge]
    congr 1
    rw [Bool.eq_iff_iff]
    simp
  · intro j x hx
    rw [spot_eq]
    cases decide (v = x) <;> rfl
/-! ### The reference's groups -/
abbrev zSent : T_laneref1_sent := ⟨0, zSpot, zSpot, 0⟩
def g0 (g : List T_laneref1_sent) : T_laneref1_sent := g.headD zSent
def gl (g : List T_laneref1_sent) : T_laneref1_sent := g.getLastD zSent
def frG (n : T_api_Nat) (v_at : Int) (g : List T_laneref1_sent) : Bool := decide (v_at - (gl g).v_at < n.Timeout)
def kyG (n : T_api_Nat) (v_from to : T_api_Spot) (g : List T_laneref1_sent) : Bool := decide ((g0 g).v_from = v_from) && decide (seenS (g0 g).to n.Maps = seenS to n.Maps)
def okG (g : List T_laneref1_sent) : Prop := g ≠ [] ∧ g.length < 4294967296 ∧ ∀ x ∈ g, 0 ≤ x.v_at ∧ x.v_at < 345686400
theorem g0_at {g : List T_laneref1_sent} (h : g ≠ []) : getZ g 0 = some (g0 g) := by
  cases g with
  | nil => exact absurd rfl h
  | cons a l => rfl
theorem g0_mem {g : List T_laneref1_sent} (h : g ≠ []) : g0 g ∈ g := by
  cases g with
  | nil => exact absurd rfl h
  | cons a l => exact List.mem_cons_self
theorem gl_eq {g : List T_laneref1_sent} (h : g ≠ []) : gl g = g.getLast h := by
  unfold gl; rw [List.getLastD_eq_getLast?, List.getLast?_eq_some_getLast h]; rfl
theorem gl_mem {g : List T_laneref1_sent} (h : g ≠ []) : gl g ∈ g := by rw [gl_eq h]; exact List.getLast_mem h
theorem gl_at {g : List T_laneref1_sent} (h : okG g) : getZ g (wi ((g.length : Int) - 1)) = some (gl g) := by
  obtain ⟨h1, h2, _⟩ := h
  have hp : 0 < g.length := List.length_pos_iff.2 h1
  rw [wi_id (by omega) (by omega), show ((g.length : Int) - 1) = ((g.length - 1 : Nat) : Int) by omega, getZ_cast, List.getElem?_eq_getElem (by omega), gl_eq h1, List.getLast_eq_getElem]
theorem gl_snoc (g : List T_laneref1_sent) (x : T_laneref1_sent) : gl (g ++ [x]) = x := by unfold gl; simp [List.getLastD_eq_getLast?]
theorem g0_snoc {g : List T_laneref1_sent} (h : g ≠ []) (x : T_laneref1_sent) : g0 (g ++ [x]) = g0 g := by
  cases g with
  | nil => exact absurd rfl h
  | cons a l => rfl
theorem l1_ok (g : List T_laneref1_sent) (x : T_laneref1_sent) (t : T_laneref1_Translator) (hg : okG g) (h0 : 0 ≤ x.v_at) (h1 : x.v_at < 345686400) :
    m_laneref1_Translator_lasting_1 g x t = some (kyG t.n x.v_from x.to g && frG t.n x.v_at g) := by
  unfold m_laneref1_Translator_lasting_1 kyG frG
  have hm := hg.2.2 _ (gl_mem hg.1)
  rw [g0_at hg.1, gl_at hg]
  simp only [bi_some]
  rw [spot_eq, same_ok, wi_sub h0 h1 hm.1 hm.2]
  cases decide ((g0 g).v_from = x.v_from) <;> cases decide (seenS (g0 g).to t.n.Maps = seenS x.to t.n.Maps) <;> rfl
theorem l2_ok (g : List T_laneref1_sent) (v_at : Int) (t : T_laneref1_Translator) (hg : okG g) (h0 : 0 ≤ v_at) (h1 : v_at < 345686400) :
    m_laneref1_Translator_lasting_2 g v_at t = some (!frG t.n v_at g) := by
  unfold m_laneref1_Translator_lasting_2 frG
  have hm := hg.2.2 _ (gl_mem hg.1)
  rw [gl_at hg]
  simp only [bi_some]
  rw [wi_sub h0 h1 hm.1 hm.2]
  congr 1
  rw [Bool.eq_iff_iff]; simp
/-- What is sent, in groups. -/
def bst (n : T_api_Nat) (B : List (List T_laneref1_sent)) (x : T_laneref1_sent) : List (List T_laneref1_sent) := ups (fun g => kyG n x.v_from x.to g && frG n x.v_at g) (fun g => g ++ [x]) [x] B
def bld (n : T_api_Nat) (l : List T_laneref1_sent) : List (List T_laneref1_sent) := l.foldl (bst n) []
theorem bld_app (n : T_api_Nat) (l : List T_laneref1_sent) (x : T_laneref1_sent) : bld n (l ++ [x]) = bst n (bld n l) x := by unfold bld; rw [List.foldl_append]; rfl
theorem snoc_ind {α : Type} {P : List α → Prop} (h0 : P []) (h1 : ∀ l x, P l → P (l ++ [x])) : ∀ l, P l := by
  have key : ∀ (n : Nat) (l : List α), l.length = n → P l := by
    intro n
    induction n with
    | zero => intro l h; rw [List.length_eq_zero_iff.1 h]; exact h0
    | succ n ih =>
      intro l h
      have hne : l ≠ [] := fun e => by subst e; simp at h
      rw [← List.dropLast_concat_getLast hne]
      exact h1 _ _ (ih _ (by rw [List.length_dropLast]; omega))
  exact fun l => key _ l rfl
theorem bld_mem (n : T_api_Nat) : ∀ (l : List T_laneref1_sent), ∀ g ∈ bld n l, g ≠ [] ∧ g.length ≤ l.length ∧ ∀ x ∈ g, x ∈ l := by
  refine snoc_ind (fun g hg => by cases hg) fun l x ih g hg => ?_
  rw [bld_app] at hg
  rcases ups_mem hg with h | rfl | ⟨a, h, _, rfl⟩
  · obtain ⟨h1, h2, h3⟩ := ih g h
    exact ⟨h1, by simp; omega, fun y hy => List.mem_append_left _ (h3 y hy)⟩
  · exact ⟨by simp, by simp, fun y hy => List.mem_append_right _ hy⟩
  · obtain ⟨h1, h2, h3⟩ := ih a h
    refine ⟨by simp, by simp; omega, fun y hy => ?_⟩
    rcases List.mem_append.1 hy with h | h
    · exact List.mem_append_left _ (h3 y h)
    · exact List.mem_append_right _ h
theorem ups_len {α : Type} {q : α → Bool} {f : α → α} {y : α} : ∀ (l : List α), (ups q f y l).length ≤ l.length + 1
  | [] => by simp [ups]
  | a :: l => by
    have := ups_len (q := q) (f := f) (y := y) l
    unfold ups
    split
    · simp
    · simp; exact this
theorem bld_len (n : T_api_Nat) : ∀ (l : List T_laneref1_sent), (bld n l).length ≤ l.length := by
  refine snoc_ind (Nat.zero_le _) fun l x ih => ?_
  rw [bld_app]
  have := ups_len (q := fun g => kyG n x.v_from x.to g && frG n x.v_at g) (f := fun g => g ++ [x]) (y := [x]) (bld n l)
  unfold bst
  simp only [List.length_append, List.length_cons, List.length_nil]
  omega
theorem bld_ok (n : T_api_Nat) (l : List T_laneref1_sent) (hl : l.length < 4294967296) (ha : ∀ x ∈ l, 0 ≤ x.v_at ∧ x.v_at < 345686400) : ∀ g ∈ bld n l, okG g := fun g hg => by
  obtain ⟨h1, h2, h3⟩ := bld_mem n l g hg
  exact ⟨h1, by omega, fun x hx => ha x (h3 x hx)⟩
/-- The reference's list, with its tags. -/
def TgB (n : Nat) (al : List Bool) (B : List (Tl T_laneref1_sent)) : Prop := Lv al (B.map (·.1)) ∧ ∀ t ∈ B.map (·.1), t = 1 ∨ n + 2 ≤ t
theorem lastingR_ok (k : Nat) (t : T_laneref1_Translator) (v_at : Int) (al : List Bool) (h0 : 0 ≤ v_at) (h1 : v_at < 345686400) (hl : t.out.length < 4294967296) (hk : t.out.length < k) (ha : ∀ x ∈ t.out, 0 ≤ x.v_at ∧ x.v_at < 345686400) :
    ∃ B al', m_laneref1_Translator_lasting k t v_at al = some (B, al') ∧ B.map (·.2) = (bld t.n t.out).filter (frG t.n v_at) ∧ Exl al.length al al' := by
  have hgrp : ∀ i, i ≤ t.out.length → ∀ g ∈ bld t.n (t.out.take i), okG g := fun i hi => bld_ok t.n _ (by rw [List.length_take]; omega) fun x hx => ha x (List.mem_of_mem_take hx)
  obtain ⟨⟨al', B⟩, h2, h3, h4, h5⟩ := rangeG_at (n := (t.out.length : Int)) (s := (al, ([] : List (Tl T_laneref1_sent)))) (f := fun i1 s2 => bi (getZ t.out (i1 : Int)) fun x13 => bi (m_slices_IndexFunc_laneref1_sent_laneref1_sent s2.2 x13 t) fun y16 => bif decide ((y16 : Int) < 0) then (bi (apd s2.2 [(1, [x13])]) fun y19 => some (s2.1, y19)) else (bi (getZ s2.2 y16) fun x22 => bi (appT s2.1 x22 [x13]) fun y25 => bi (getZ s2.2 y16) fun x27 => some (y25.2, s2.2.set y16.toNat y25.1)))
    (fun i s => s.2.map (·.2) = bld t.n (t.out.take i) ∧ Exl al.length al s.1 ∧ TgB al.length s.1 s.2) ⟨rfl, Exl.rfl', ⟨⟨fun _ h => (by cases h), List.Pairwise.nil⟩, fun _ h => (by cases h)⟩⟩ (by
      rintro i ⟨al1, B⟩ hi ⟨h2, h3, h4⟩
      simp only at h2 h3 h4 ⊢
      rw [Int.toNat_natCast] at hi
      have hx := List.getElem?_eq_getElem hi
      have hax := ha _ (List.getElem_mem hi)
      have hB : ∀ e ∈ B, okG e.2 := fun e he => hgrp i (by omega) _ (by rw [← h2]; exact List.mem_map_of_mem he)
      have hBl : B.length ≤ i := by
        have := bld_len t.n (t.out.take i)
        rw [← h2, List.length_map, List.length_take] at this
        omega
      simp only [getZ_cast, hx, bi_some]
      generalize hxx : t.out[i] = x
      rw [hxx] at hax hx
      have hix : m_slices_IndexFunc_laneref1_sent_laneref1_sent B x t = some (ixZ (fun e : Tl T_laneref1_sent => kyG t.n x.v_from x.to e.2 && frG t.n x.v_at e.2) B) := by
        unfold m_slices_IndexFunc_laneref1_sent_laneref1_sent
        rw [small_gd (by omega), gd_true, bi_rangeI_ix (fun e : Tl T_laneref1_sent => kyG t.n x.v_from x.to e.2 && frG t.n x.v_at e.2) B]
        intro j e he
        simp only [getZ_cast, he, bi_some]
        rw [l1_ok e.2 x t (hB e (List.mem_of_getElem? he)) hax.1 hax.2]
        simp only [bi_some]
        cases (kyG t.n x.v_from x.to e.2 && frG t.n x.v_at e.2) <;> rfl
      rw [hix]
      simp only [bi_some]
      rw [ixZ_lt]
      have htk : t.out.take (i + 1) = t.out.take i ++ [x] := by rw [List.take_add_one, hx]; rfl
      rw [htk, bld_app, ← h2]
      have hany : B.any (fun e : Tl T_laneref1_sent => kyG t.n x.v_from x.to e.2 && frG t.n x.v_at e.2) = (B.map (·.2)).any (fun g => kyG t.n x.v_from x.to g && frG t.n x.v_at g) := by rw [List.any_map]; rfl
      cases hc : B.any (fun e : Tl T_laneref1_sent => kyG t.n x.v_from x.to e.2 && frG t.n x.v_at e.2) with
      | false =>
        simp only [Bool.not_false, cond_true]
        rw [apd_some (by simp; omega)]
        refine ⟨_, rfl, ?_, h3, ?_, ?_⟩
        · unfold bst
          rw [ups_none (by rw [← hany, hc])]
          simp
        · simp only [List.map_append, List.map_cons, List.map_nil]
          exact h4.1.one
        · intro t' ht'
          simp only [List.map_append, List.map_cons, List.map_nil, List.mem_append, List.mem_singleton] at ht'
          rcases ht' with ht' | ht'
          · exact h4.2 t' ht'
          · exact .inl ht'
      | true =>
        obtain ⟨j, e, h5, h6, h7, h8, _⟩ := ixZ_some hc
        rw [h5]
        have hel : e.2.length < 4294967296 := (hB e (List.mem_of_getElem? h7)).2.1
        obtain ⟨al2, h9, h10, h11, h12⟩ := h4.1.app (i := j) (s := e) x (by rw [List.getElem?_map, h7]; rfl) hel
        simp only [Bool.not_true, cond_false, getZ_cast, h7, bi_some, h9, Int.toNat_natCast]
        refine ⟨_, rfl, ?_, ⟨show al.length ≤ al2.length by have := h3.1; omega, h3.2.1, fun q hq => ?_⟩, ?_, ?_⟩
        · unfold bst
          rw [ups_set (i := j) (a := e.2) (by rw [List.findIdx?_map]; exact h6) (by rw [List.getElem?_map, h7]; rfl), List.map_set]
        · rw [h12 q (by have := h3.1; omega) ?_, h3.2.2 q hq]
          intro e2
          rcases h4.2 e.1 (List.mem_map_of_mem (List.mem_of_getElem? h7)) with h13 | h13
          · omega
          · omega
        · rw [List.map_set]; exact h10
        · intro t' ht'
          rw [List.map_set] at ht'
          rcases List.mem_or_eq_of_mem_set ht' with h13 | rfl
          · exact h4.2 t' h13
          · exact .inr (by have := h3.1; omega))
  simp only at h3 h4 h5
  rw [Int.toNat_natCast, List.take_of_length_le (Nat.le_refl _)] at h3
  have hB : ∀ e ∈ B, okG e.2 := fun e he => bld_ok t.n t.out hl ha _ (by rw [← h3]; exact List.mem_map_of_mem he)
  have hBl : B.length ≤ t.out.length := by
    have := bld_len t.n t.out
    rw [← h3, List.length_map] at this
    omega
  have hix : m_slices_IndexFunc_laneref1_sent_laneref1_sent_2 B v_at t = some (ixZ (fun x : Tl T_laneref1_sent => !frG t.n v_at x.2) B) := by
    unfold m_slices_IndexFunc_laneref1_sent_laneref1_sent_2
    rw [small_gd (by omega), gd_true, bi_rangeI_ix (fun x : Tl T_laneref1_sent => !frG t.n v_at x.2) B]
    intro j x hx
    simp only [getZ_cast, hx, bi_some]
    rw [l2_ok x.2 v_at t (hB x (List.mem_of_getElem? hx)) h0 h1]
    simp only [bi_some]
    cases frG t.n v_at x.2 <;> rfl
  unfold m_laneref1_Translator_lasting
  rw [small_gd (by omega), gd_true, h2]
  simp only [bi_some]
  unfold m_slices_DeleteFunc_laneref1_sent_laneref1_sent
  rw [hix]
  simp only [bi_some]
  rw [del_ok (fun x : Tl T_laneref1_sent => !frG t.n v_at x.2) (fun x => m_laneref1_Translator_lasting_2 x.2 v_at t) B k (fun x hx => l2_ok x.2 v_at t (hB x hx) h0 h1) (by omega) (by omega)]
  refine ⟨_, _, rfl, ?_, h4⟩
  rw [← h3, List.filter_map]
  congr 1
  exact List.filter_congr fun x _ => by simp
end Go.Gk
