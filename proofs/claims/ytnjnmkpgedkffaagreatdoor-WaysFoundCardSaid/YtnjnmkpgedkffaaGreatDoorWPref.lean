/-
  The plain laws of addresses: prefixes, checked, ordered, and what they hold.
-/
import Derived.Test.YtnjnmkpgedkffaaGreatDoorWCmp
set_option linter.unusedVariables false
set_option linter.unusedSimpArgs false
set_option linter.unusedSectionVars false
set_option maxRecDepth 100000
namespace Go.Gk
def cmpI (x y : Int) : Int := if x < y then -1 else if x > y then 1 else 0
theorem cmpInt_ok (x y : Int) : m_cmp_Compare_int x y = some (cmpI x y) := by
  unfold m_cmp_Compare_int m_cmp_isNaN_int cmpI
  have : ∀ z : Int, (z != z) = false := fun z => by simp
  rw [this, this]
  by_cases h : x < y
  · simp [h]
  · by_cases h2 : y < x <;> simp [h, h2]
theorem cmpU_ok (x y : Int) : m_cmp_Compare_uint64 x y = some (cmpI x y) := by
  unfold m_cmp_Compare_uint64 m_cmp_isNaN_uint64 cmpI
  have : ∀ z : Int, (z != z) = false := fun z => by simp
  rw [this, this]
  by_cases h : x < y
  · simp [h]
  · by_cases h2 : y < x <;> simp [h, h2]
theorem orZ_ok : ∀ (l : List Int), m_cmp_Or_int l = some ((l.find? (· != 0)).getD 0) := by
  intro l
  unfold m_cmp_Or_int
  have key : ∀ (m : List Int) (i : Nat), (bi (rangeM (σ := Unit) (ρ := Int) (fun i1 x3 s2 => bif (x3 : Int) != 0 then (bi (some x3) fun v => some (.out v)) else (some (.go ()))) i m ()) fun q => goI q fun a6 => some 0) = some ((m.find? (· != 0)).getD 0) := by
    intro m
    induction m with
    | nil => intro i; rfl
    | cons y m ih =>
      intro i
      cases hy : (y != 0) with
      | true => simp [rangeM, hy]
      | false =>
        simp only [rangeM, hy, cond_false, List.find?_cons]
        exact ih (i + 1)
  exact key l 0
theorem or2_ok (x y : Int) : m_cmp_Or_int [x, y] = some (if x = 0 then y else x) := by
  rw [orZ_ok]
  by_cases h : x = 0
  · by_cases h2 : y = 0
    · simp [h, h2]
    · simp [h, bne_iff_ne.2 h2]
  · simp [h, bne_iff_ne.2 h]
theorem spanCmp_ok {a b : T_api_Addr} (ha : AOk a) (hb : AOk b) : m_span_Compare a b = some (cmpA a b) := by
  unfold m_span_Compare cmpA
  by_cases hs : a.Six = b.Six
  · rw [if_pos hs, hs, show (b.Six == b.Six) = true by simp]
    simp only [Bool.not_true, cond_false, cmpU_ok, bi_some, or2_ok]
    have := ha.h0; have := ha.h1; have := ha.l0; have := ha.l1; have := hb.h0; have := hb.h1; have := hb.l0; have := hb.l1
    congr 1
    unfold cmpI cmpN nm
    by_cases h1 : a.Hi < b.Hi
    · rw [if_pos h1, if_neg (by decide), if_pos (by omega)]
    · rw [if_neg h1]
      by_cases h2 : a.Hi > b.Hi
      · rw [if_pos h2, if_neg (by decide), if_neg (by omega), if_pos (by omega)]
      · rw [if_neg h2, if_pos rfl]
        by_cases h3 : a.Lo < b.Lo
        · rw [if_pos h3, if_pos (by omega)]
        · rw [if_neg h3]
          by_cases h4 : a.Lo > b.Lo
          · rw [if_pos h4, if_neg (by omega), if_pos (by omega)]
          · rw [if_neg h4, if_neg (by omega), if_neg (by omega)]
  · rw [if_neg hs, beq_eq_false_iff_ne.2 hs]
    cases b.Six <;> rfl
def cmpP (p q : T_api_Prefix) : Int := if cmpA p.Addr q.Addr = 0 then cmpI p.Bits q.Bits else cmpA p.Addr q.Addr
theorem spanPref_ok {p q : T_api_Prefix} (hp : AOk p.Addr) (hq : AOk q.Addr) : m_span_ComparePrefixes p q = some (cmpP p q) := by
  unfold m_span_ComparePrefixes cmpP
  rw [spanCmp_ok hp hq, cmpInt_ok]
  simp only [bi_some, or2_ok]
theorem prefOrder_ok {p q : T_api_Prefix} (hp : AOk p.Addr) (hq : AOk q.Addr) (k : Nat) (hk : 10 ≤ k) : m_laneref1_PrefixOrder k p q = some (cmpP p q) := by
  unfold m_laneref1_PrefixOrder cmpP
  rw [order_ok hp hq k hk, cmpInt_ok]
  simp only [bi_some, or2_ok]
/-! ### Faults -/
def afZ (a : T_api_Addr) : Int := if a.Six = false ∧ (a.Hi ≠ 0 ∨ a.Lo ≥ 4294967296) then 3 else 0
theorem afP (a : T_api_Addr) : m_addr_CheckAddr a = some (afZ a) := by
  unfold m_addr_CheckAddr afZ
  cases h : a.Six
  · by_cases h2 : a.Hi = 0
    · by_cases h3 : a.Lo ≥ 4294967296
      · simp [h2, h3]
      · simp [h2, h3]
    · simp [h2, bne_iff_ne.2 h2]
  · simp
theorem afR (a : T_api_Addr) (h0 : 0 ≤ a.Hi) : m_laneref2_AddrFault a = some (afZ a) := by
  unfold m_laneref2_AddrFault afZ
  cases h : a.Six
  · by_cases h2 : a.Hi = 0
    · by_cases h3 : a.Lo ≥ 4294967296
      · simp [h2, h3, show (4294967295 : Int) < a.Lo by omega]
      · simp [h2, h3, show ¬ (4294967295 : Int) < a.Lo by omega]
    · simp [h2, show (0 : Int) < a.Hi by omega]
  · simp
theorem out_ok (n a b : Int) : m_kit_Outside n a b = some (!decide (a ≤ n ∧ n ≤ b)) := by
  unfold m_kit_Outside
  congr 1
  rw [Bool.eq_iff_iff]
  simp
theorem in1_ok (n a b : Int) : m_laneref1_in n a b = some (decide (a ≤ n ∧ n ≤ b)) := by
  unfold m_laneref1_in
  congr 1
  rw [Bool.eq_iff_iff]
  simp
theorem in2_ok (n a b : Int) : m_laneref2_in n a b = some (decide (a ≤ n ∧ n ≤ b)) := by
  unfold m_laneref2_in
  congr 1
  rw [Bool.eq_iff_iff]
  simp
/-- How many bits a prefix leaves open. -/
def opn (p : T_api_Prefix) : Nat := ((lnN p.Addr : Int) - p.Bits).toNat
def pfA (p : T_api_Prefix) : Int := if afZ p.Addr ≠ 0 then 3 else if ¬ (0 ≤ p.Bits ∧ p.Bits ≤ lnN p.Addr) then 1 else if cl (nm p.Addr) (opn p) ≠ nm p.Addr then 3 else 0
theorem af_cases (a : T_api_Addr) : afZ a = 0 ∨ afZ a = 3 := by unfold afZ; split <;> simp
theorem prefP_ok {p : T_api_Prefix} (h : AOk p.Addr) : m_addr_CheckPrefix p = some (pfA p) := by
  unfold m_addr_CheckPrefix pfA
  rw [afP]
  rcases af_cases p.Addr with e | e
  · rw [e]
    simp only [bi_some, bne_self_eq_false, cond_false, length_ok, lnN_eq, out_ok, ne_eq, not_true_eq_false, if_false]
    by_cases hb : 0 ≤ p.Bits ∧ p.Bits ≤ lnN p.Addr
    · rw [decide_eq_true hb, if_neg (not_not_intro hb)]
      simp only [Bool.not_true, cond_false]
      rw [masked_ok h p.Bits hb.1 hb.2]
      simp only [bi_some]
      rw [addr_eq]
      unfold opn
      by_cases hc : cl (nm p.Addr) ((lnN p.Addr : Int) - p.Bits).toNat = nm p.Addr
      · rw [decide_eq_true ((adr_eq h).2 ⟨rfl, hc⟩), if_neg (not_not_intro hc)]; rfl
      · rw [decide_eq_false fun e => hc ((adr_eq h).1 e).2, if_pos hc]; rfl
    · rw [decide_eq_false hb, if_pos hb]; rfl
  · rw [e]; rfl
theorem w9_inj {n m : Nat} (hn : n < 2 ^ 128) (hm : m < 2 ^ 128) {f : Bool} (h : w9 n f = w9 m f) : n = m := by
  have h1 := wide_addr_ok 5 (Nat.le_refl _) hn f
  rw [h, wide_addr_ok 5 (Nat.le_refl _) hm f] at h1
  have := congrArg nm (Option.some.inj h1)
  rw [nm_adr, nm_adr] at this
  exact this.symm
def l9 (w : W9) : List Int := [w.1, w.2.1, w.2.2.1, w.2.2.2.1, w.2.2.2.2.1, w.2.2.2.2.2.1, w.2.2.2.2.2.2.1, w.2.2.2.2.2.2.2.1, w.2.2.2.2.2.2.2.2]
theorem l9_inj {v w : W9} (h : l9 v = l9 w) : v = w := by
  obtain ⟨v0, v1, v2, v3, v4, v5, v6, v7, v8⟩ := v
  obtain ⟨w0, w1, w2, w3, w4, w5, w6, w7, w8⟩ := w
  unfold l9 at h
  simp only [List.cons.injEq, and_true] at h
  obtain ⟨rfl, rfl, rfl, rfl, rfl, rfl, rfl, rfl, rfl⟩ := h
  rfl
theorem l9_dec (v w : W9) (p : Prop) [Decidable p] (h : v = w ↔ p) : decide (([v.1, v.2.1, v.2.2.1, v.2.2.2.1, v.2.2.2.2.1, v.2.2.2.2.2.1, v.2.2.2.2.2.2.1, v.2.2.2.2.2.2.2.1, v.2.2.2.2.2.2.2.2] : List Int) = ([w.1, w.2.1, w.2.2.1, w.2.2.2.1, w.2.2.2.2.1, w.2.2.2.2.2.1, w.2.2.2.2.2.2.1, w.2.2.2.2.2.2.2.1, w.2.2.2.2.2.2.2.2] : List Int)) = decide p := by
  rw [Bool.eq_iff_iff]
  simp only [decide_eq_true_eq]
  exact ⟨fun e => h.1 (l9_inj e), fun e => by rw [h.2 e]⟩
theorem pr_mid (v w : W9) (n m : Nat) (h : v = w ↔ n = m) : (bif !decide (([v.1, v.2.1, v.2.2.1, v.2.2.2.1, v.2.2.2.2.1, v.2.2.2.2.2.1, v.2.2.2.2.2.2.1, v.2.2.2.2.2.2.2.1, v.2.2.2.2.2.2.2.2] : List Int) = ([w.1, w.2.1, w.2.2.1, w.2.2.2.1, w.2.2.2.2.1, w.2.2.2.2.2.1, w.2.2.2.2.2.2.1, w.2.2.2.2.2.2.2.1, w.2.2.2.2.2.2.2.2] : List Int)) then (some (3 : Int)) else (some 0)) = some (if n ≠ m then 3 else 0) := by
  rw [l9_dec v w (n = m) h]
  by_cases hc : n = m
  · simp [hc]
  · simp [hc]
theorem prefR_ok {p : T_api_Prefix} (h : AOk p.Addr) (k : Nat) (hk : 10 ≤ k) : m_laneref2_PrefixFault k p = some (pfA p) := by
  have hcut : ∀ hb : 0 ≤ p.Bits ∧ p.Bits ≤ lnN p.Addr, (bi (m_laneref2_firstOf k p.Addr p.Bits) fun y11 => bi (m_laneref2_of k p.Addr) fun y13 => bif !decide (([y11.1, y11.2.1, y11.2.2.1, y11.2.2.2.1, y11.2.2.2.2.1, y11.2.2.2.2.2.1, y11.2.2.2.2.2.2.1, y11.2.2.2.2.2.2.2.1, y11.2.2.2.2.2.2.2.2] : List Int) = ([y13.1, y13.2.1, y13.2.2.1, y13.2.2.2.1, y13.2.2.2.2.1, y13.2.2.2.2.2.1, y13.2.2.2.2.2.2.1, y13.2.2.2.2.2.2.2.1, y13.2.2.2.2.2.2.2.2] : List Int)) then (some (3 : Int)) else (some 0)) = some (if cl (nm p.Addr) (opn p) ≠ nm p.Addr then 3 else 0) := fun hb => by
    have e1 := firstOf_ok h k (by omega) p.Bits hb.1 (by rw [lnN_eq]; exact hb.2)
    rw [lnN_eq] at e1
    have e3 : ((lnN p.Addr : Int) - p.Bits).toNat = opn p := rfl
    rw [e3] at e1
    rw [e1, of_ok h k (by omega), bi_some, bi_some]
    have e4 : w9 (cl (nm p.Addr) (opn p)) p.Addr.Six = w9 (nm p.Addr) p.Addr.Six ↔ cl (nm p.Addr) (opn p) = nm p.Addr := ⟨fun e => w9_inj (Nat.lt_of_le_of_lt (cl_le _ _) (nm_lt h)) (nm_lt h) e, fun e => by rw [e]⟩
    have e5 := pr_mid (w9 (cl (nm p.Addr) (opn p)) p.Addr.Six) (w9 (nm p.Addr) p.Addr.Six) (cl (nm p.Addr) (opn p)) (nm p.Addr) e4
    exact e5
  unfold m_laneref2_PrefixFault pfA
  rw [afR _ h.h0]
  by_cases e : afZ p.Addr = 0
  · rw [e, if_neg (not_not_intro rfl)]
    simp only [bi_some, bne_self_eq_false, cond_false, len_ok, lnN_eq, in2_ok]
    by_cases hb : 0 ≤ p.Bits ∧ p.Bits ≤ lnN p.Addr
    · rw [decide_eq_true hb, if_neg (not_not_intro hb)]
      simp only [Bool.not_true, cond_false]
      exact hcut hb
    · rw [decide_eq_false hb, if_pos hb]
      simp only [Bool.not_false, cond_true]
  · rw [if_pos e, bi_some, bne_iff_ne.2 e, cond_true]
    rcases af_cases p.Addr with e2 | e2
    · exact absurd e2 e
    · rw [e2]
/-! ### What a prefix holds -/
structure VP (p : T_api_Prefix) : Prop where
  ok : AOk p.Addr
  b0 : 0 ≤ p.Bits
  b1 : p.Bits ≤ lnN p.Addr
  cut : cl (nm p.Addr) (opn p) = nm p.Addr
theorem VP.of {p : T_api_Prefix} (h : AOk p.Addr) (h0 : pfA p = 0) : VP p := by
  unfold pfA at h0
  by_cases h1 : afZ p.Addr = 0
  · rw [if_neg (not_not_intro h1)] at h0
    by_cases hb : 0 ≤ p.Bits ∧ p.Bits ≤ lnN p.Addr
    · rw [if_neg (not_not_intro hb)] at h0
      by_cases hc : cl (nm p.Addr) (opn p) = nm p.Addr
      · exact ⟨h, hb.1, hb.2, hc⟩
      · rw [if_pos hc] at h0; omega
    · rw [if_pos hb] at h0; omega
  · rw [if_pos h1] at h0; omega
def hold (p : T_api_Prefix) (a : T_api_Addr) : Bool := decide (p.Addr.Six = a.Six ∧ cl (nm a) (opn p) = nm p.Addr)
theorem contains_ok {p : T_api_Prefix} {a : T_api_Addr} (hp : VP p) (ha : AOk a) : m_span_Contains p a = some (hold p a) := by
  unfold m_span_Contains hold
  by_cases hs : p.Addr.Six = a.Six
  · have hl : lnN a = lnN p.Addr := by unfold lnN; rw [hs]
    rw [show (p.Addr.Six == a.Six) = true by simpa using hs]
    simp only [cond_true]
    rw [masked_ok ha p.Bits hp.b0 (by rw [hl]; exact hp.b1)]
    simp only [bi_some]
    rw [addr_eq, hl]
    congr 1
    rw [Bool.eq_iff_iff]
    simp only [decide_eq_true_eq]
    rw [adr_eq hp.ok]
    unfold opn
    exact ⟨fun h => ⟨hs, h.2⟩, fun h => ⟨hs.symm, h.2⟩⟩
  · rw [beq_eq_false_iff_ne.2 hs, decide_eq_false fun h => hs h.1]; rfl
theorem cl_range (x q m : Nat) : cl x m = q * 2 ^ m ↔ (q * 2 ^ m ≤ x ∧ x ≤ q * 2 ^ m + (2 ^ m - 1)) := by
  have hX : 0 < 2 ^ m := Nat.pow_pos (by decide)
  unfold cl
  generalize 2 ^ m = X at hX
  constructor
  · intro h
    have h1 : x / X = q := Nat.eq_of_mul_eq_mul_right hX h
    have h2 := Nat.div_add_mod x X
    have h3 := Nat.mod_lt x hX
    rw [h1, Nat.mul_comm] at h2
    omega
  · rintro ⟨h1, h2⟩
    have : x / X = q := Nat.div_eq_of_lt_le h1 (by rw [Nat.add_mul]; omega)
    rw [this]
theorem holds_ok {p : T_api_Prefix} {a : T_api_Addr} (hp : VP p) (ha : AOk a) (k : Nat) (hk : 10 ≤ k) : m_laneref2_Holds k p a = some (hold p a) := by
  unfold m_laneref2_Holds
  have hX : 0 < 2 ^ opn p := Nat.pow_pos (by decide)
  have hm : opn p ≤ 128 := by unfold opn; have := lnN_le p.Addr; have := hp.b0; omega
  have hq : nm p.Addr = nm p.Addr / 2 ^ opn p * 2 ^ opn p := hp.cut.symm
  have hfl : fl (nm p.Addr) (opn p) = nm p.Addr + (2 ^ opn p - 1) := by
    unfold fl
    rw [hq, Nat.mul_comm, ← Nat.two_pow_add_eq_or_of_lt (by omega)]
  have hflt : fl (nm p.Addr) (opn p) < 2 ^ 128 := bit_lt fun j hj => by
    rw [fl_bit, bit_ge (nm_lt hp.ok) hj, decide_eq_false (by omega)]; rfl
  rw [of_ok hp.ok k (by omega), of_ok ha k (by omega), lastOf_ok hp.ok k (by omega) hp.b0 (by rw [lnN_eq]; exact hp.b1), lnN_eq]
  simp only [bi_some]
  rw [show ((lnN p.Addr : Int) - p.Bits).toNat = opn p from rfl, wide_cmp_ok k hk (nm_lt hp.ok) (nm_lt ha)]
  simp only [bi_some]
  rw [wide_cmp_ok k hk (nm_lt ha) hflt]
  simp only [bi_some]
  unfold hold cmpW cmpN
  by_cases hs : p.Addr.Six = a.Six
  · rw [if_pos hs, if_pos hs.symm, hfl]
    have hr := cl_range (nm a) (nm p.Addr / 2 ^ opn p) (opn p)
    rw [← hq] at hr
    by_cases h1 : nm p.Addr ≤ nm a
    · rw [decide_eq_true (show (if nm p.Addr < nm a then (-1 : Int) else if nm a < nm p.Addr then 1 else 0) ≤ 0 by
        by_cases hz : nm p.Addr < nm a
        · rw [if_pos hz]; decide
        · rw [if_neg hz, if_neg (by omega)]; decide)]
      simp only [cond_true, bi_some]
      congr 1
      rw [Bool.eq_iff_iff]
      simp only [decide_eq_true_eq]
      rw [hr]
      constructor
      · intro h
        refine ⟨hs, h1, ?_⟩
        apply Classical.byContradiction
        intro hc
        rw [if_neg (by omega), if_pos (by omega)] at h
        omega
      · rintro ⟨_, _, h2⟩
        split
        · omega
        · rw [if_neg (by omega)]; omega
    · rw [decide_eq_false (show ¬ (if nm p.Addr < nm a then (-1 : Int) else if nm a < nm p.Addr then 1 else 0) ≤ 0 by rw [if_neg (by omega), if_pos (by omega)]; omega)]
      simp only [cond_false, bi_some]
      rw [decide_eq_false fun h => h1 (hr.1 h.2).1]
  · rw [if_neg hs, if_neg (fun e : a.Six = p.Addr.Six => hs e.symm), decide_eq_false (fun h : p.Addr.Six = a.Six ∧ _ => hs h.1)]
    cases h1 : a.Six <;> cases h2 : p.Addr.Six <;> first | rfl | (rw [h1, h2] at hs; exact absurd rfl hs)
end Go.Gk
