/-
  The plain law: records, one by one and in order.
  The plain law: zones, and what is found in them.
  The plain law: the zones that are drawn.
  The plain law: sorting and thinning what was drawn; the zone.
  The plain law: ZonesFound.
-/
import Derived.Test.YtpgnhnjhpnbelaaGreatDoorZBase
set_option linter.unusedVariables false
set_option linter.unusedSimpArgs false
set_option maxRecDepth 100000
namespace Go.Gk
def wordsT : List Str := [[], [104, 105], [97, 32, 98], [118, 61, 49], [32, 120], [97, 10, 98], [121]]
theorem plain_tab : ∀ w ∈ wordsT, ∃ b, m_kit_IsPlain 400 w = some b ∧ m_laneref1_plain w = some b ∧ w.length ≤ 200 ∧ (w = [] → b = true) := by
  intro w hw
  simp only [wordsT, List.mem_cons, List.not_mem_nil, or_false] at hw
  rcases hw with rfl | rfl | rfl | rfl | rfl | rfl | rfl <;> exact ⟨_, rfl, rfl, by decide, fun h => by first | rfl | cases h⟩
def okRec (r : T_api_Record) : Prop := r.Name.length ≤ 300 ∧ r.To.length ≤ 300 ∧ r.Words ∈ wordsT ∧ 0 ≤ r.Addr.Hi
theorem addr_ok (a : T_api_Addr) (h : 0 ≤ a.Hi) : ∃ e, m_addr_CheckAddr a = some e ∧ m_laneref2_AddrFault a = some e := by
  unfold m_laneref2_AddrFault m_addr_CheckAddr
  have e1 : (a.Hi != 0) = decide (a.Hi > 0) := by rw [Bool.eq_iff_iff]; simp; omega
  have e2 : decide (a.Lo ≥ 4294967296) = decide (a.Lo > 4294967295) := by rw [Bool.eq_iff_iff]; simp; omega
  rw [e1, e2]
  cases (!a.Six && (decide (a.Hi > 0) || decide (a.Lo > 4294967295))) <;> exact ⟨_, rfl, rfl⟩
def kindB (k : Int) : Bool := k == 1 || (k == 5 || (k == 12 || (k == 16 || k == 28)))
theorem isKind_ok (k : Int) : m_name_isKind k = some (kindB k) := by
  unfold m_name_isKind kindB
  cases (k == 1) <;> cases (k == 5) <;> cases (k == 12) <;> cases (k == 16) <;> cases (k == 28) <;> rfl
theorem kinds_ok (k : Int) : m_slices_Contains_int_int [1, 5, 12, 16, 28] k = some (kindB k) := by
  unfold m_slices_Contains_int_int m_slices_Index_int_int kindB
  simp only [rangeM]
  cases (k == 1) <;> cases (k == 5) <;> cases (k == 12) <;> cases (k == 16) <;> cases (k == 28) <;> rfl
theorem outside_in (n a b : Int) : ∃ c, m_kit_Outside n a b = some c ∧ m_laneref1_in n a b = some (!c) := by
  refine ⟨_, rfl, ?_⟩
  unfold m_laneref1_in
  congr 1
  rw [Bool.eq_iff_iff]
  simp
theorem b3 (e : Int) : (e != 0) = !(e == 0) := rfl
theorem recFault_ok (r : T_api_Record) (h : okRec r) : ∃ e, m_name_recordFault 400 r = some e ∧ m_laneref1_RecordFault r = some e := by
  obtain ⟨h1, h2, h3, h4⟩ := h
  obtain ⟨ab, a1, a2⟩ := addr_ok r.Addr h4
  obtain ⟨pl, p1, p2, p3, p4⟩ := plain_tab _ h3
  obtain ⟨ot, o1, o2⟩ := outside_in r.Life 0 1000000
  have hle := trim_le r.Name [42, 46]
  have d1 := check_ok 398 (Lib.trimPrefix r.Name [42, 46]) (by omega)
  have d2 := fault_ok (Lib.trimPrefix r.Name [42, 46]) (by omega)
  have d3 := check_ok 398 r.To (by omega)
  have d4 := fault_ok r.To (by omega)
  have hw : decide ((r.Words.length : Int) > 200) = false := decide_eq_false (by omega)
  have hb : m_name_bare r.Name = some (Lib.trimPrefix r.Name [42, 46]) := rfl
  have ht : m_strings_TrimPrefix r.Name [42, 46] = some (Lib.trimPrefix r.Name [42, 46]) := rfl
  have hk : m_laneref1_Kinds = some [1, 5, 12, 16, 28] := rfl
  have hha : m_name_hasAddr r.Kind = some ((r.Kind == 1) || (r.Kind == 28)) := rfl
  have hhn : m_name_hasName r.Kind = some ((r.Kind == 5) || (r.Kind == 12)) := rfl
  have hwe : (r.Words == []) = true → pl = true := fun e => p4 (by simpa using e)
  unfold m_name_recordFault m_laneref1_RecordFault
  rw [hb, ht, hk, hha, hhn]
  simp only [bi_some]
  rw [d1, d2, d3, d4, isKind_ok, kinds_ok, a1, a2, p1, p2, o1, o2]
  simp only [bi_some, hw]
  generalize (domF (Lib.trimPrefix r.Name [42, 46]) != 0) = x1
  generalize decide ((r.Name.length : Int) > 253) = x2
  cases x1 <;> cases x2 <;> try exact ⟨_, rfl, rfl⟩
  simp only [Bool.or_false, cond_false]
  cases hkb : kindB r.Kind with
  | false => exact ⟨_, rfl, rfl⟩
  | true =>
    simp only [Bool.not_true, cond_false]
    have hk' : r.Kind = 1 ∨ r.Kind = 5 ∨ r.Kind = 12 ∨ r.Kind = 16 ∨ r.Kind = 28 := by simpa [kindB] using hkb
    generalize (domF r.To != 0) = x3
    generalize (ab != 0) = x4
    generalize (r.Words == []) = x5 at hwe
    generalize (r.To == []) = x6
    generalize ((r.Addr.Six == false) && ((r.Addr.Hi == 0) && ((r.Addr.Lo == 0) && true))) = x7
    generalize r.Addr.Six = x8
    rcases hk' with e | e | e | e | e <;> rw [e] <;> cases x3 <;> cases x4 <;> cases x6 <;> cases x7 <;> cases x8 <;> cases ot <;> cases pl <;> cases x5 <;> first | exact ⟨_, rfl, rfl⟩ | (exfalso; exact absurd (hwe rfl) (by decide))

/-! ### The order of records -/
def cmpI (x y : Int) : Int := if x < y then -1 else if x > y then 1 else 0
theorem cmpInt_ok (x y : Int) : m_cmp_Compare_int x y = some (cmpI x y) := by
  unfold m_cmp_Compare_int m_cmp_isNaN_int cmpI
  have : ∀ z : Int, (z != z) = false := fun z => by simp
  rw [this, this]
  by_cases h : x < y
  · simp [h]
  · by_cases h2 : y < x <;> simp [h, h2]
theorem cmpU_ok (x y : Int) : m_cmp_Compare_uint64 x y = some (cmpI x y) := by
  unfold m_cmp_Compare_uint64 m_cmp_isNaN_uint64 cmpI
  have : ∀ z : Int, (z != z) = false := fun z => by simp
  rw [this, this]
  by_cases h : x < y
  · simp [h]
  · by_cases h2 : y < x <;> simp [h, h2]
theorem orInt_ok (x : Int) (l : List Int) : ∃ c, m_cmp_Or_int (x :: l) = some c ∧ (x ≠ 0 → c = x) := by
  unfold m_cmp_Or_int
  by_cases h : x = 0
  · generalize hf : (fun (i1 : Nat) (x3 : Int) (s2 : Unit) => _) = f
    obtain ⟨r, hr⟩ := rangeM_ex (f := f) (x :: l) 0 (by
      intro j x _ _
      subst hf
      simp only
      cases (x != 0) <;> exact ⟨_, rfl⟩)
    rw [hr]
    cases r <;> exact ⟨_, rfl, fun h2 => absurd h h2⟩
  · have : (x != 0) = true := by simpa using h
    exact ⟨x, by simp [rangeM, this, goI], fun _ => rfl⟩
theorem order_ok (a b : T_api_Record) : ∃ c, m_name_compareRecords a b = some c ∧ m_laneref1_recordOrder a b = some c ∧ (c < 0 → Lib.compareBytes a.Name b.Name ≤ 0) := by
  unfold m_name_compareRecords m_laneref1_recordOrder
  have hc : ∀ s t : Str, m_strings_Compare s t = some (Lib.compareBytes s t) := fun _ _ => rfl
  simp only [hc, bi_some, cmpInt_ok, cmpU_ok]
  obtain ⟨c, h1, h2⟩ := orInt_ok (Lib.compareBytes a.Name b.Name) [cmpI a.Kind b.Kind, cmpI a.Addr.Hi b.Addr.Hi, cmpI a.Addr.Lo b.Addr.Lo, Lib.compareBytes a.To b.To, Lib.compareBytes a.Words b.Words]
  rw [h1]
  refine ⟨c, rfl, rfl, fun hc => ?_⟩
  by_cases h0 : Lib.compareBytes a.Name b.Name = 0
  · omega
  · rw [h2 h0] at hc; omega
theorem cb_refl : ∀ a : Str, Lib.compareBytes a a = 0
  | [] => rfl
  | x :: a => by
    have := cb_refl a
    simp [Lib.compareBytes, this]
theorem cb_trans : ∀ a b c : Str, Lib.compareBytes a b ≤ 0 → Lib.compareBytes b c ≤ 0 → Lib.compareBytes a c ≤ 0
  | [], _, [], _, _ => by decide
  | [], _, _ :: _, _, _ => by simp [Lib.compareBytes]
  | _ :: _, [], _, h, _ => by simp [Lib.compareBytes] at h
  | _ :: _, _ :: _, [], _, h => by simp [Lib.compareBytes] at h
  | x :: a, y :: b, z :: c, h1, h2 => by
    have ih := cb_trans a b c
    simp only [Lib.compareBytes, UInt8.lt_iff_toNat_lt] at h1 h2 ⊢
    split at h1 <;> split at h2 <;> rename_i h3 h4
    · rw [if_pos (by omega)]; decide
    · split at h2
      · omega
      · rw [if_pos (by omega)]; decide
    · split at h1
      · omega
      · rw [if_pos (by omega)]; decide
    · split at h1
      · omega
      · split at h2
        · omega
        · rw [if_neg (by omega), if_neg (by omega)]
          exact ih h1 h2
theorem cb_anti : ∀ a b : Str, Lib.compareBytes a b ≤ 0 → Lib.compareBytes b a ≤ 0 → a = b
  | [], [], _, _ => rfl
  | [], _ :: _, _, h => by simp [Lib.compareBytes] at h
  | _ :: _, [], h, _ => by simp [Lib.compareBytes] at h
  | x :: a, y :: b, h1, h2 => by
    have ih := cb_anti a b
    simp only [Lib.compareBytes, UInt8.lt_iff_toNat_lt] at h1 h2
    by_cases h3 : x.toNat < y.toNat
    · rw [if_neg (by omega), if_pos h3] at h2; omega
    · by_cases h4 : y.toNat < x.toNat
      · rw [if_neg h3, if_pos h4] at h1; omega
      · rw [if_neg h3, if_neg h4] at h1
        rw [if_neg h4, if_neg h3] at h2
        have : x = y := UInt8.toNat_inj.1 (by omega)
        rw [this, ih h1 h2]

/-- No two records of one name, one of them an alias. -/
def Calm (R : List T_api_Record) : Prop := ∀ (i : Nat) (a b : T_api_Record), R[i]? = some a → R[i + 1]? = some b → Lib.compareBytes a.Name b.Name ≤ 0 ∧ (a.Name = b.Name → a.Kind ≠ 5 ∧ b.Kind ≠ 5)
theorem Calm.mono {R : List T_api_Record} (h : Calm R) : ∀ (n i : Nat) (a b : T_api_Record), R[i]? = some a → R[i + n]? = some b → Lib.compareBytes a.Name b.Name ≤ 0
  | 0, i, a, b, ha, hb => by
    rw [Nat.add_zero, ha] at hb
    cases hb
    rw [cb_refl]; exact Int.le_refl _
  | n + 1, i, a, b, ha, hb => by
    have hlt := (List.getElem?_eq_some_iff.1 hb).1
    have hc : R[i + n]? = some (R[i + n]'(by omega)) := List.getElem?_eq_getElem (by omega)
    exact cb_trans _ _ _ (h.mono n i a _ ha hc) (h (i + n) _ b hc (by rw [← hb]; rfl)).1
theorem Calm.pair {R : List T_api_Record} (h : Calm R) : R.Pairwise fun a b => a.Name = b.Name → a.Kind ≠ 5 ∧ b.Kind ≠ 5 := by
  rw [List.pairwise_iff_getElem]
  intro i j hi hj hij e
  have ha : R[i]? = some R[i] := List.getElem?_eq_getElem hi
  have hb : R[j]? = some R[j] := List.getElem?_eq_getElem hj
  have hc : R[i + 1]? = some (R[i + 1]'(by omega)) := List.getElem?_eq_getElem (by omega)
  have hd : R[j - 1]? = some (R[j - 1]'(by omega)) := List.getElem?_eq_getElem (by omega)
  constructor
  · obtain ⟨k1, k2⟩ := h i _ _ ha hc
    have k3 := h.mono (j - (i + 1)) (i + 1) _ _ hc (by rw [show i + 1 + (j - (i + 1)) = j by omega]; exact hb)
    exact (k2 (cb_anti _ _ k1 (by rw [e]; exact k3))).1
  · obtain ⟨k1, k2⟩ := h (j - 1) _ _ hd (by rw [show j - 1 + 1 = j by omega]; exact hb)
    have k3 := h.mono (j - 1 - i) i _ _ ha (by rw [show i + (j - 1 - i) = j - 1 by omega]; exact hd)
    exact (k2 (cb_anti _ _ k1 (by rw [← e]; exact k3))).2
/-- One record, or no alias. -/
def OneOr (l : List T_api_Record) : Prop := (∃ x, l = [x]) ∨ ∀ x ∈ l, x.Kind ≠ 5
theorem Calm.one {R : List T_api_Record} (h : Calm R) (want : Str) : OneOr (R.filter fun r => r.Name == want) := by
  have hp := h.pair.sublist (List.filter_sublist (p := fun r => r.Name == want))
  have hn : ∀ x ∈ R.filter (fun r => r.Name == want), x.Name = want := fun x hx => by have := (List.mem_filter.1 hx).2; simpa using this
  generalize R.filter (fun r => r.Name == want) = l at hp hn
  match l with
  | [] => exact .inr fun x hx => by cases hx
  | [x] => exact .inl ⟨x, rfl⟩
  | x :: y :: t =>
    right
    intro z hz
    rw [List.pairwise_cons] at hp
    have nx := hn x List.mem_cons_self
    rcases List.mem_cons.1 hz with rfl | hz'
    · exact (hp.1 y List.mem_cons_self (nx.trans (hn y (by simp)).symm)).1
    · exact (hp.1 z hz' (nx.trans (hn z hz).symm)).2

def okZone (z : T_api_Zone) : Prop := z.Root.length ≤ 300 ∧ z.Records.length ≤ 100 ∧ ∀ r ∈ z.Records, okRec r
theorem rangeM_go {α ρ : Type} {f : Nat → α → Unit → Option (LS Unit ρ)} : ∀ (l : List α) (i : Nat) {s : Unit}, rangeM f i l () = some (.go s) → ∀ j x, l[j]? = some x → f (i + j) x () = some (.go ())
  | [], i, s, _, j, x, h => by simp at h
  | y :: l, i, s, h, j, x, hx => by
    simp only [rangeM] at h
    cases hf : f i y () with
    | none => rw [hf] at h; cases h
    | some q =>
      rw [hf] at h
      cases q with
      | out r => cases h
      | go u =>
        cases j with
        | zero => simp at hx; subst hx; exact hf
        | succ j => have := rangeM_go l (i + 1) h j x (by simpa using hx); rw [show i + (j + 1) = i + 1 + j by omega]; exact this
theorem under_eq (n z : Str) : m_laneref1_IsUnder n z = m_name_under n z := rfl
theorem bare_len (r : T_api_Record) (h : okRec r) : (Lib.trimPrefix r.Name [42, 46]).length ≤ 300 := by
  have := trim_le r.Name [42, 46]
  have := h.1
  omega

theorem zone_ok (z : T_api_Zone) (h : okZone z) : ∃ e, m_name_CheckZone 400 z = some e ∧ m_laneref1_ZoneFault z = some e ∧ (e = 0 → domF z.Root = 0 ∧ Calm z.Records) := by
  obtain ⟨h1, h2, h3⟩ := h
  unfold m_name_CheckZone m_laneref1_ZoneFault
  rw [check_ok 398 _ (by omega), fault_ok _ (by omega), decide_eq_false (show ¬ (z.Records.length : Int) > 2000 by omega)]
  simp only [bi_some, cond_false]
  cases hd : (domF z.Root != 0) with
  | true => exact ⟨_, rfl, rfl, fun e => by rw [e] at hd; cases hd⟩
  | false =>
    have hd0 : domF z.Root = 0 := by simpa using hd
    simp only [cond_false]
    generalize hf : (fun (i7 : Nat) (x9 : T_api_Record) (s8 : Unit) => _) = f
    generalize hg : (fun (i7 : Nat) (x9 : T_api_Record) (s8 : Unit) => _) = g
    obtain ⟨r, e1, e2, e3⟩ := rangeM_ex3 (f := f) (g := g) (fun v => v ≠ 0) z.Records 0 (by
      intro j x hj hx
      obtain ⟨rf, r1, r2⟩ := recFault_ok x (h3 x hx)
      have hb := bare_len x (h3 x hx)
      obtain ⟨u, u1, _⟩ := under_ok (Lib.trimPrefix x.Name [42, 46]) z.Root (by omega) (by omega)
      have hb1 : m_name_bare x.Name = some (Lib.trimPrefix x.Name [42, 46]) := rfl
      have hb2 : m_laneref1_bare x.Name = some (Lib.trimPrefix x.Name [42, 46]) := rfl
      subst hf; subst hg
      simp only [r1, r2, bi_some, hb1, hb2, under_eq, u1]
      cases hrf : (rf != 0) with
      | true => exact ⟨_, rfl, rfl, fun v e => by cases e; simpa using hrf⟩
      | false =>
        simp only [cond_false]
        cases u with
        | false => exact ⟨_, rfl, rfl, fun v e => by cases e; decide⟩
        | true =>
          simp only [Bool.not_true, cond_false]
          cases hj0 : ((j : Int) == 0) with
          | true => exact ⟨_, rfl, rfl, fun v e => by cases e⟩
          | false =>
            have hj1 : (j : Int) ≠ 0 := by simpa using hj0
            obtain ⟨o, _, ho⟩ := getZ_in z.Records (r := wi ((j : Int) - 1)) (by rw [wi_id (by omega) (by omega)]; omega) (by rw [wi_id (by omega) (by omega)]; omega)
            obtain ⟨c, c1, c2, _⟩ := order_ok o x
            simp only [cond_false, ho, bi_some, c1, c2]
            have hcomm : ((x.Kind == 5) || (o.Kind == 5)) = ((o.Kind == 5) || (x.Kind == 5)) := Bool.or_comm _ _
            rw [hcomm]
            cases (c == 0) with
            | true => exact ⟨_, rfl, rfl, fun v e => by cases e; decide⟩
            | false =>
              cases decide (c > 0) with
              | true => exact ⟨_, rfl, rfl, fun v e => by cases e; decide⟩
              | false =>
                cases ((o.Name == x.Name) && ((o.Kind == 5) || (x.Kind == 5))) with
                | true => exact ⟨_, rfl, rfl, fun v e => by cases e; decide⟩
                | false => exact ⟨_, rfl, rfl, fun v e => by cases e⟩)
    rw [e1, e2]
    cases r with
    | out v => exact ⟨v, rfl, rfl, fun e => absurd e (e3 v rfl)⟩
    | go u =>
      refine ⟨0, rfl, rfl, fun _ => ⟨hd0, fun i a b ha hb => ?_⟩⟩
      have hlt := (List.getElem?_eq_some_iff.1 hb).1
      have hx := h3 b (List.mem_of_getElem? hb)
      have := rangeM_go z.Records 0 e1 (i + 1) b hb
      rw [Nat.zero_add] at this
      subst hf
      simp only at this
      obtain ⟨rf, r1, r2⟩ := recFault_ok b hx
      have hbl := bare_len b hx
      obtain ⟨un, u1, _⟩ := under_ok (Lib.trimPrefix b.Name [42, 46]) z.Root (by omega) (by omega)
      have hb1 : m_name_bare b.Name = some (Lib.trimPrefix b.Name [42, 46]) := rfl
      obtain ⟨c, c1, c2, c3⟩ := order_ok a b
      have hj0 : (((i + 1 : Nat) : Int) == 0) = false := by simp; omega
      have hgz : getZ z.Records (wi (((i + 1 : Nat) : Int) - 1)) = some a := by
        rw [wi_id (by omega) (by omega), show ((i + 1 : Nat) : Int) - 1 = ((i : Nat) : Int) by omega, getZ_cast, ha]
      simp only [r1, bi_some, hb1, u1, hj0, cond_false, hgz, c1] at this
      cases hrf : (rf != 0) with
      | true => rw [hrf] at this; cases this
      | false =>
        rw [hrf] at this
        cases un with
        | false => cases this
        | true =>
          simp only [Bool.not_true, cond_false] at this
          cases hc0 : (c == 0) with
          | true => rw [hc0] at this; cases this
          | false =>
            rw [hc0] at this
            cases hcp : decide (c > 0) with
            | true => rw [hcp] at this; cases this
            | false =>
              rw [hcp] at this
              have k1 : ¬ c > 0 := of_decide_eq_false hcp
              have k2 : c ≠ 0 := by simpa using hc0
              refine ⟨c3 (by omega), fun en => ?_⟩
              simp only [cond_false, en, beq_self_eq_true, Bool.true_and] at this
              cases h5 : ((a.Kind == 5) || (b.Kind == 5)) with
              | true => rw [h5] at this; cases this
              | false =>
                rw [Bool.or_eq_false_iff] at h5
                exact ⟨by simpa using h5.1, by simpa using h5.2⟩

/-! ### What is at a name -/
theorem there_eq (z : T_api_Zone) (n : Str) : m_laneref1_there z n = m_name_there z n := rfl
theorem there_ok (z : T_api_Zone) (n : Str) (h : okZone z) (hn : n.length ≤ 300) : ∃ b, m_name_there z n = some b := by
  unfold m_name_there m_slices_ContainsFunc_api_Record_api_Record m_slices_IndexFunc_api_Record_api_Record
  generalize hf : (fun (i1 : Nat) (x3 : T_api_Record) (s2 : Unit) => _) = f
  obtain ⟨r, hr⟩ := rangeM_ex (f := f) z.Records 0 (by
    intro j x _ hx
    subst hf
    have hbl := bare_len x (h.2.2 x hx)
    obtain ⟨u, u1, _⟩ := under_ok (Lib.trimPrefix x.Name [42, 46]) n (by omega) (by omega)
    have hb1 : m_name_bare x.Name = some (Lib.trimPrefix x.Name [42, 46]) := rfl
    simp only [m_name_there_1, hb1, bi_some, u1]
    cases u <;> exact ⟨_, rfl⟩)
  rw [hr]
  cases r <;> exact ⟨_, rfl⟩
theorem loopM_ex {σ ρ : Type} {f : σ → Option (LS σ ρ)} (I : σ → Prop) (μ : σ → Nat) (R : ρ → Prop) (h : ∀ s, I s → ∃ y, f s = some y ∧ (∀ s', y = .go s' → I s' ∧ μ s' < μ s) ∧ ∀ r, y = .out r → R r) : ∀ (k : Nat) (s : σ), I s → μ s < k → ∃ r, loopM f k s = some r ∧ R r
  | 0, s, _, hk => by omega
  | k + 1, s, hI, hk => by
    obtain ⟨y, h1, h2, h3⟩ := h s hI
    simp only [loopM, h1]
    cases y with
    | out r => exact ⟨r, rfl, h3 r rfl⟩
    | go s' =>
      obtain ⟨h4, h5⟩ := h2 s' rfl
      exact loopM_ex I μ R h k s' h4 (by omega)
theorem loopM_ex2 {σ ρ : Type} {f g : σ → Option (LS σ ρ)} (I : σ → Prop) (μ : σ → Nat) (h : ∀ s, I s → ∃ y, f s = some y ∧ g s = some y ∧ (∀ s', y = .go s' → I s' ∧ μ s' < μ s)) : ∀ (k : Nat) (s : σ), I s → μ s < k → ∃ r, loopM f k s = some r ∧ loopM g k s = some r
  | 0, s, _, hk => by omega
  | k + 1, s, hI, hk => by
    obtain ⟨y, h1, h2, h3⟩ := h s hI
    simp only [loopM, h1, h2]
    cases y with
    | out r => exact ⟨r, rfl, rfl⟩
    | go s' =>
      obtain ⟨h4, h5⟩ := h3 s' rfl
      exact loopM_ex2 I μ h k s' h4 (by omega)
def renm (name : Str) (r : T_api_Record) : T_api_Record := ⟨name, r.Kind, r.Addr, r.To, r.Words, r.Life⟩
theorem pickF (name want : Str) (f : Nat → T_api_Record → List T_api_Record → Option (List T_api_Record)) : ∀ (l : List T_api_Record) (i : Nat) (s : List T_api_Record), (∀ i x s, f i x s = bif x.Name == want then bi (apd s [renm name x]) fun y => some y else some s) → s.length + l.length ≤ 1000 → rangeF f i l s = some (s ++ (l.filter fun r => r.Name == want).map (renm name))
  | [], i, s, _, _ => by simp [rangeF]
  | x :: l, i, s, h, hb => by
    simp only [List.length_cons] at hb
    simp only [rangeF, h i x s]
    cases hx : (x.Name == want) with
    | true =>
      rw [apd_some (by simp only [List.length_cons, List.length_nil]; omega)]
      simp only [cond_true, bi_some]
      rw [pickF name want f l (i + 1) _ h (by simp only [List.length_append, List.length_cons, List.length_nil]; omega)]
      simp [List.filter_cons, hx]
    | false =>
      simp only [cond_false, bi_some]
      rw [pickF name want f l (i + 1) _ h (by omega)]
      simp [List.filter_cons, hx]
theorem OneOr.renm {l : List T_api_Record} (h : OneOr l) (name : Str) : OneOr (l.map (renm name)) := by
  rcases h with ⟨x, rfl⟩ | h
  · exact .inl ⟨_, rfl⟩
  · right
    intro x hx
    obtain ⟨y, hy, rfl⟩ := List.mem_map.1 hx
    exact h y hy
theorem at_ok (z : T_api_Zone) (name : Str) (h : okZone z) (hn : name.length ≤ 300) (hr : z.Root ≠ []) (hu : UP name z.Root) (hc : Calm z.Records) :
    ∃ l t, m_laneref1_recordsAt 400 z name = some l ∧ m_name_at 400 z name = some (l, t) ∧ m_name_there z name = some t ∧ l.length ≤ 100 ∧ OneOr l ∧ ∀ x ∈ l, x.To.length ≤ 300 := by
  obtain ⟨t, ht⟩ := there_ok z name h hn
  have fin : ∀ (want : Str) (f : Nat → T_api_Record → List T_api_Record → Option (List T_api_Record)), (∀ i x s, f i x s = bif x.Name == want then bi (apd s [Gk.renm name x]) fun y => some y else some s) →
      ∃ l, rangeF f 0 z.Records [] = some l ∧ l.length ≤ 100 ∧ OneOr l ∧ ∀ x ∈ l, x.To.length ≤ 300 := fun want f hf => by
    have h2 := h.2.1
    refine ⟨_, pickF name want f z.Records 0 [] hf (by simp; omega), ?_, ?_, ?_⟩
    · have := List.length_filter_le (fun r : T_api_Record => r.Name == want) z.Records
      simp; omega
    · rw [List.nil_append]; exact (hc.one want).renm name
    · intro x hx
      rw [List.nil_append] at hx
      obtain ⟨y, hy, rfl⟩ := List.mem_map.1 hx
      exact (h.2.2 y (List.mem_filter.1 hy).1).2.1
  unfold m_laneref1_recordsAt m_name_at
  simp only [there_eq, ht, bi_some]
  cases t with
  | true =>
    simp only [Bool.not_true, cond_false, bi_some, orI]
    obtain ⟨l, e1, e2, e3, e4⟩ := fin name _ (fun i x s => rfl)
    simp only [Gk.renm] at e1
    refine ⟨l, true, ?_, ?_, rfl, e2, e3, e4⟩
    · rw [e1]; rfl
    · rw [e1]; rfl
  | false =>
    simp only [Bool.not_false, cond_true]
    generalize hf : (fun (s8 : Str) => (bif !((s8 : Str) == z.Root) then _ else _ : Option (LS Str Str))) = f
    obtain ⟨r, hr1, hr2⟩ := loopM_ex (f := f) (fun s => UP name s ∧ z.Root.length ≤ s.length ∧ s.length ≤ 300) (fun s => s.length) (fun r => r.length ≤ 300) (by
      rintro s ⟨i1, i2, i3⟩
      subst hf
      simp only
      cases hs : (s == z.Root) with
      | true => exact ⟨_, rfl, fun s' e => (by cases e), fun r e => by cases e; exact i3⟩
      | false =>
        have hne : s ≠ z.Root := by simpa using hs
        have hsn : s ≠ [] := fun e => by subst e; simp at i2; exact hr (List.eq_nil_of_length_eq_zero (by simpa using i2))
        have hlt := after_lt hsn
        have hcut : m_strings_Cut s [46] = some (cut1 s 46) := by
          unfold m_strings_Cut
          rw [Nat.ble_eq_true_of_le (show s.length ≤ 1099511627776 by omega)]
          rfl
        have hcl : (cut1 s 46).2.1 = after s := rfl
        obtain ⟨b, hb⟩ := there_ok z (after s) h (by omega)
        simp only [Bool.not_false, cond_true, hcut, bi_some, hcl, hb]
        have hzl : z.Root.length < s.length := by
          rcases Nat.lt_or_ge z.Root.length s.length with h' | h'
          · exact h'
          · exact absurd (UP.eq i1 hu (by omega)) hne
        have hn' := UP.next i1 hu hzl
        cases b with
        | true => exact ⟨_, rfl, fun s' e => (by cases e), fun r e => by cases e; omega⟩
        | false => exact ⟨_, rfl, fun s' e => (by cases e; exact ⟨⟨i1.after hsn, hn', by omega⟩, hlt⟩), fun r e => (by cases e)⟩)
      400 name ⟨.inr (.inl rfl), hu.suf.length_le, hn⟩ (by omega)
    rw [hr1]
    simp only [bi_some]
    cases hnr : (name == z.Root) with
    | true => exact ⟨[], false, rfl, rfl, rfl, by simp, .inr fun x hx => (by cases hx), fun x hx => (by cases hx)⟩
    | false =>
      simp only [cond_false]
      rw [cat_ok (show ([42, 46] : Str).length + r.length ≤ 9223372036854775807 by simp only [List.length_cons, List.length_nil]; omega)]
      simp only [bi_some, orI]
      obtain ⟨l, e1, e2, e3, e4⟩ := fin ([42, 46] ++ r) _ (fun i x s => rfl)
      simp only [Gk.renm] at e1
      refine ⟨l, false, ?_, ?_, rfl, e2, e3, e4⟩
      · rw [e1]; rfl
      · rw [e1]; rfl

/-! ### The records of a kind -/
theorem clone_ok (l : List T_api_Record) (h : l.length ≤ 1000) : m_slices_Clone_api_Record_api_Record l = some l := by
  unfold m_slices_Clone_api_Record_api_Record
  rw [apd_some (by simpa using (show l.length ≤ 4294967296 by omega))]
  rfl
theorem idx2_ok (l : List T_api_Record) (kind : Int) (h : l.length ≤ 1000) : ∃ r, m_slices_IndexFunc_api_Record_api_Record_2 l kind = some r ∧ (r = -1 ∨ (0 ≤ r ∧ r < l.length)) := by
  unfold m_slices_IndexFunc_api_Record_api_Record_2
  have hg : ∀ (f : Nat → Unit → Option (LS Unit Int)), (∀ i, i < l.length → f i () = some (.go ()) ∨ f i () = some (.out (i : Int))) → ∃ r, rangeI f (l.length : Int) () = some r ∧ ∀ v, r = .out v → 0 ≤ v ∧ v < l.length := by
    intro f hf
    unfold rangeI
    rw [Int.toNat_natCast]
    have key : ∀ (n i : Nat), i + n = l.length → ∃ r, rangeM (fun i (_ : Unit) s => f i s) i (List.replicate n ()) () = some r ∧ ∀ v, r = LS.out v → 0 ≤ v ∧ v < l.length := by
      intro n
      induction n with
      | zero => intro i _; exact ⟨_, rfl, fun v e => by cases e⟩
      | succ n ih =>
        intro i hi
        simp only [List.replicate_succ, rangeM]
        rcases hf i (by omega) with e | e
        · rw [e]; exact ih (i + 1) (by omega)
        · rw [e]; exact ⟨_, rfl, fun v e => by cases e; omega⟩
    exact key l.length 0 (by omega)
  rw [decide_eq_true (show (l.length : Int) ≤ 9223372036854775807 by omega), gd_true]
  generalize hf : (fun (i1 : Nat) (s2 : Unit) => _) = f
  obtain ⟨r, h1, h2⟩ := hg f (by
    intro i hi
    subst hf
    simp only
    rw [getZ_cast, List.getElem?_eq_getElem hi]
    simp only [bi_some, m_name_find_1]
    cases (l[i].Kind != kind) with
    | true => exact .inr rfl
    | false => exact .inl rfl)
  rw [h1]
  cases r with
  | out v => exact ⟨v, rfl, .inr (h2 v rfl)⟩
  | go u => exact ⟨-1, rfl, .inl rfl⟩
theorem delete_eq (k : Nat) (l : List T_api_Record) (kind : Int) : m_slices_DeleteFunc_api_Record_api_Record_2 k l kind = m_slices_DeleteFunc_api_Record_api_Record k l kind := rfl
theorem delete_ok (l : List T_api_Record) (kind : Int) (h : l.length ≤ 300) : ∃ r, m_slices_DeleteFunc_api_Record_api_Record 400 l kind = some r ∧ r.length ≤ l.length := by
  obtain ⟨i0, e1, e2⟩ := idx2_ok l kind (by omega)
  unfold m_slices_DeleteFunc_api_Record_api_Record
  rw [e1]
  simp only [bi_some]
  rcases e2 with rfl | ⟨h0, h1⟩
  · exact ⟨l, rfl, Nat.le_refl _⟩
  · have hne : (i0 == -1) = false := by simp; omega
    rw [hne]
    simp only [cond_false]
    generalize hf : (fun (s6 : List T_api_Record × Int × Int) => _) = f
    obtain ⟨q, q1, q2⟩ := loopM_ex (f := f) (fun s => s.1.length = l.length ∧ 0 ≤ s.2.1 ∧ s.2.1 < s.2.2 ∧ s.2.2 ≤ l.length) (fun s => l.length - s.2.2.toNat) (fun r => r.1.length = l.length ∧ 0 ≤ r.2 ∧ r.2 ≤ l.length) (by
      rintro ⟨s, a, b⟩ ⟨i1, i2, i3, i4⟩
      subst hf
      simp only at i1 i2 i3 i4 ⊢
      by_cases hb : b < s.length
      · rw [decide_eq_true hb]
        simp only [cond_true]
        obtain ⟨x, _, hx⟩ := getZ_in s (r := b) (by omega) hb
        obtain ⟨y, _, hy⟩ := getZ_in s (r := a) (by omega) (by omega)
        rw [hx, hy]
        simp only [bi_some, m_name_find_1]
        have w1 : wi (a + 1) = a + 1 := wi_id (by omega) (by omega)
        have w2 : wi (b + 1) = b + 1 := wi_id (by omega) (by omega)
        rw [w1, w2]
        cases (x.Kind != kind) with
        | true => exact ⟨_, rfl, fun s' e => (by cases e; exact ⟨⟨i1, i2, by simp only; omega, by simp only; omega⟩, by simp only; omega⟩), fun r e => (by cases e)⟩
        | false => exact ⟨_, rfl, fun s' e => (by cases e; exact ⟨⟨by simpa using i1, by simp only; omega, by simp only; omega, by simp only; omega⟩, by simp only; omega⟩), fun r e => (by cases e)⟩
      · rw [decide_eq_false hb]
        exact ⟨_, rfl, fun s' e => (by cases e), fun r e => (by cases e; exact ⟨i1, i2, by simp only; omega⟩)⟩)
      400 (l, i0, wi (i0 + 1)) (by
        have : wi (i0 + 1) = i0 + 1 := wi_id (by omega) (by omega)
        rw [this]
        exact ⟨rfl, h0, by simp only; omega, by simp only; omega⟩) (by omega)
    rw [q1]
    obtain ⟨q3, q4, q5⟩ := q2
    simp only [bi_some]
    refine ⟨q.1.take q.2.toNat, ?_, by simp; omega⟩
    unfold subZ
    rw [decide_eq_true q4, decide_eq_true (show q.2 ≤ (q.1.length : Int) by omega), decide_eq_true (Int.le_refl _)]
    rfl
theorem alias_ok (l : List T_api_Record) (h : OneOr l) (hl : l.length ≤ 1000) : ∃ i : Int, m_slices_IndexFunc_api_Record_api_Record_3 l = some i ∧ ((i < 0 ∧ (l = [] ∨ ∃ x t, l = x :: t ∧ x.Kind ≠ 5)) ∨ (i = 0 ∧ ∃ x, l = [x] ∧ x.Kind = 5)) := by
  unfold m_slices_IndexFunc_api_Record_api_Record_3
  rcases h with ⟨x, rfl⟩ | h
  · by_cases hx : x.Kind = 5
    · refine ⟨0, ?_, .inr ⟨rfl, x, rfl, hx⟩⟩
      simp [rangeM, m_name_find_2, hx, goI]
    · have : (x.Kind == 5) = false := by simpa using hx
      refine ⟨-1, ?_, .inl ⟨by decide, .inr ⟨x, [], rfl, hx⟩⟩⟩
      simp [rangeM, m_name_find_2, this, goI]
  · refine ⟨-1, ?_, .inl ⟨by decide, ?_⟩⟩
    · rw [rangeM_all (fun x : T_api_Record => true) (0 : Int) l 0 (fun j x hx => by
        have : (x.Kind == 5) = false := by simpa using h x (List.mem_of_getElem? hx)
        simp [m_name_find_2, this])]
      simp [goI]
    · cases l with
      | nil => exact .inl rfl
      | cons x t => exact .inr ⟨x, t, rfl, h x List.mem_cons_self⟩

theorem find_ok (z : T_api_Zone) (name : Str) (kind : Int) (h : okZone z) (hn : name.length ≤ 300) (hr : z.Root ≠ []) (hu : UP name z.Root) (hc : Calm z.Records) (hun : m_name_under name z.Root = some true) :
    ∃ r, m_name_find 400 z name kind = some r ∧ m_laneref1_FindIn 400 z name kind = some r := by
  obtain ⟨l0, t0, a1, a2, a3, a4, a5, a6⟩ := at_ok z name h hn hr hu hc
  have hstart : m_laneref1_FindIn 400 z name kind = bif !t0 && ((l0.length : Int) == 0) then some ([], 8) else loopM (σ := (List T_api_Record) × Str × Int) (ρ := (List T_api_Record) × Int) (fun s16 => bi (m_laneref1_recordsAt 400 z s16.2.1) fun y25 => bi (m_slices_Clone_api_Record_api_Record y25) fun y27 => bi (m_slices_DeleteFunc_api_Record_api_Record_2 400 y27 kind) fun y29 => bi (bif ((decide (((y29.length : Int) : Int) > 0)) || (((y25.length : Int) : Int) == 0)) then (some true) else (bi (getZ y25 0) fun x35 => some ((x35.Kind : Int) != 5))) fun q31 => bif q31 then (bi (apd s16.1 y29) fun y38 => bi (some (y38, 0)) fun v => some (.out v)) else (bif (s16.2.2 : Int) == 8 then (bi (some ([], 14)) fun v => some (.out v)) else (bi (getZ y25 0) fun x47 => bi (apd s16.1 [x47]) fun y49 => bi (getZ y25 0) fun x51 => bi (m_laneref1_IsUnder x51.To z.Root) fun y53 => bif !y53 then (bi (some (y49, 0)) fun v => some (.out v)) else (some (.go (y49, x51.To, wi (s16.2.2 + 1))))))) 400 (([] : List T_api_Record), name, 0) := by
    unfold m_laneref1_FindIn
    rw [under_eq, hun, there_eq, a3, a1]
    simp only [bi_some, Bool.not_true, cond_false]
    have bs : ∀ o : Option ((List T_api_Record) × Int), (bi o fun v => some v) = o := fun o => by cases o <;> rfl
    cases t0 with
    | true => simp only [Bool.not_true, Bool.false_and, cond_false, bi_some, bs]
    | false =>
      simp only [Bool.not_false, Bool.true_and, cond_true, bi_some]
      cases ((l0.length : Int) == 0) <;> simp only [cond_true, cond_false, bs]
  have bs : ∀ o : Option ((List T_api_Record) × Int), (bi o fun v => some v) = o := fun o => by cases o <;> rfl
  rw [hstart]
  unfold m_name_find
  rw [bs]
  generalize hf : (fun (s2 : List T_api_Record × Str × Int) => bi (m_name_at 400 z s2.2.1) _) = f
  generalize hg : (fun (s16 : List T_api_Record × Str × Int) => _) = g
  cases hgd : (!t0 && ((l0.length : Int) == 0)) with
  | true =>
    refine ⟨([], 8), ?_, rfl⟩
    have : f ([], name, 0) = some (.out ([], 8)) := by
      subst hf
      simp only [a2, bi_some]
      have : ((((0 : Int) == 0) && !t0) && ((l0.length : Int) == 0)) = true := by
        rw [Bool.and_eq_true] at hgd
        rw [hgd.1, hgd.2]; rfl
      rw [this]
      rfl
    simp only [loopM, this]
  | false =>
    simp only [cond_false]
    obtain ⟨r, e1, e2⟩ := loopM_ex2 (f := f) (g := g) (fun s => s.1.length ≤ s.2.2.toNat ∧ UP s.2.1 z.Root ∧ s.2.1.length ≤ 300 ∧ 0 ≤ s.2.2 ∧ s.2.2 ≤ 8 ∧ (s.2.2 = 0 → s.2.1 = name)) (fun s => 9 - s.2.2.toNat) (by
      rintro ⟨out, nm, n⟩ ⟨i1, i2, i3, i4, i5, i6⟩
      simp only at i1 i2 i3 i4 i5 i6 ⊢
      obtain ⟨l, t, b1, b2, b3, b4, b5, b6⟩ := at_ok z nm h i3 hr i2 hc
      obtain ⟨dl, d1, d2⟩ := delete_ok l kind (by omega)
      obtain ⟨i, c1, c2⟩ := alias_ok l b5 (by omega)
      subst hf; subst hg
      simp only [b1, b2, bi_some, clone_ok l (show l.length ≤ 1000 by omega), d1, delete_eq, c1]
      have hgd' : (((n == 0) && !t) && ((l.length : Int) == 0)) = false := by
        by_cases hn0 : n = 0
        · have := i6 hn0
          subst this
          rw [a1] at b1; cases b1
          rw [a3] at b3; cases b3
          rw [hn0]
          simpa using hgd
        · have : (n == 0) = false := by simpa using hn0
          rw [this]; rfl
      rw [hgd']
      simp only [cond_false]
      have ha : apd out dl = some (out ++ dl) := apd_some (by omega)
      rw [ha]
      rcases c2 with ⟨hi, hl⟩ | ⟨rfl, x, rfl, hx⟩
      · rw [decide_eq_true hi]
        have hq : (bif (decide ((dl.length : Int) > 0) || ((l.length : Int) == 0)) then (some true) else (bi (getZ l 0) fun x35 => some (x35.Kind != 5))) = some true := by
          rcases hl with rfl | ⟨x, t, rfl, hx⟩
          · simp
          · cases (decide ((dl.length : Int) > 0) || (((x :: t).length : Int) == 0)) with
            | true => rfl
            | false =>
              have : (x.Kind != 5) = true := by simpa using hx
              simp only [cond_false]
              show some (x.Kind != 5) = _
              rw [this]
        rw [hq]
        simp only [Bool.or_true, cond_true, bi_some]
        exact ⟨_, rfl, rfl, fun s' e => by cases e⟩
      · have g0 : getZ [x] 0 = some x := rfl
        rw [g0]
        have hq : (bif (decide ((dl.length : Int) > 0) || ((([x] : List T_api_Record).length : Int) == 0)) then (some true) else (bi (some x) fun x35 => some (x35.Kind != 5))) = some (decide ((dl.length : Int) > 0)) := by
          have : (x.Kind != 5) = false := by simp [hx]
          simp only [bi_some, this]
          cases decide ((dl.length : Int) > 0) <;> rfl
        rw [hq]
        simp only [bi_some, show decide ((0 : Int) < 0) = false from rfl, Bool.or_false]
        cases decide ((dl.length : Int) > 0) with
        | true => exact ⟨_, rfl, rfl, fun s' e => by cases e⟩
        | false =>
          simp only [cond_false]
          cases hn8 : (n == 8) with
          | true => exact ⟨_, rfl, rfl, fun s' e => by cases e⟩
          | false =>
            have hn8' : n ≠ 8 := by simpa using hn8
            have hap : apd out [x] = some (out ++ [x]) := apd_some (by simp only [List.length_cons, List.length_nil]; omega)
            obtain ⟨u, u1, u2⟩ := under_ok x.To z.Root (by have := b6 x (by simp); omega) (by have := h.1; omega)
            simp only [cond_false, hap, bi_some, under_eq, u1]
            cases u with
            | false => exact ⟨_, rfl, rfl, fun s' e => by cases e⟩
            | true =>
              have hw : wi (n + 1) = n + 1 := wi_id (by omega) (by omega)
              rw [hw]
              refine ⟨_, rfl, rfl, fun s' e => ?_⟩
              cases e
              exact ⟨⟨by simp only [List.length_append, List.length_cons, List.length_nil]; omega, u2.1 (.inr rfl), b6 x (by simp), by simp only; omega, by simp only; omega, fun e => absurd e (by simp only; omega)⟩, by simp only; omega⟩)
      400 ([], name, 0) ⟨by simp, hu, hn, by simp, by simp, fun _ => rfl⟩ (by simp)
    exact ⟨r, e1, e2⟩

theorem u64_nn (x : Int) : 0 ≤ IntKind.u64.wrap x := Int.emod_nonneg _ (by decide)
/-- A draw: what comes out is well, and few numbers are used up. -/
def Dr {α : Type} (l : List Int) (a : Int) (n : Int) (m : Option (α × T_lanemake_Stream)) (p : α → Prop) : Prop := ∃ x a', p x ∧ a ≤ a' ∧ a' ≤ a + n ∧ m = some (x, ⟨l, a'⟩)
theorem range_ok (l : List Int) (a lo hi : Int) (hl : l.length ≤ 9223372036854775807) (h0 : 0 ≤ a) (h1 : a < 4611686018427387904) (h2 : lo ≤ hi) (h3 : -1000000000 ≤ lo) (h4 : hi ≤ 1000000000) :
    ∃ r, lo ≤ r ∧ r ≤ hi ∧ m_lanemake_Stream_Range ⟨l, a⟩ lo hi = some (r, ⟨l, a + 1⟩) := by
  unfold m_lanemake_Stream_Range
  have w1 : wi (hi - lo) = hi - lo := wi_id (by omega) (by omega)
  have w2 : wi (hi - lo + 1) = hi - lo + 1 := wi_id (by omega) (by omega)
  obtain ⟨r, r0, r1, hr⟩ := next_ok l a (hi - lo + 1) hl h0 h1 (by omega) (by omega)
  refine ⟨lo + r, by omega, by omega, ?_⟩
  rw [decide_eq_false (show ¬ hi < lo by omega), w1, w2, hr]
  simp only [cond_false, bi_some]
  rw [wi_id (by omega) (by omega)]
def addrR (x : T_api_Addr) : Prop := 0 ≤ x.Hi
theorem addrD (l : List Int) (a : Int) (hl : l.length ≤ 9223372036854775807) (h0 : 0 ≤ a) (h1 : a < 4611686018427380000) : Dr l a 5 (m_lanemake_Stream_Addr ⟨l, a⟩) addrR := by
  obtain ⟨r, r0, r1, hr⟩ := next_ok l a 6 hl h0 (by omega) (by decide) (by decide)
  unfold m_lanemake_Stream_Addr Dr
  rw [hr]
  simp only [bi_some]
  cases (r == 0) with
  | true =>
    obtain ⟨s, s0, s1, hs⟩ := next_ok l (a + 1) 5 hl (by omega) (by omega) (by decide) (by decide)
    obtain ⟨t, t0, t1, ht⟩ := next_ok l (a + 1 + 1) 5 hl (by omega) (by omega) (by decide) (by decide)
    obtain ⟨x, hx, ex⟩ := getZ_in ([0, 18230571291595767808, 2306139568115548160, 9223372036854775808, 18446744073709551615] : List Int) s0 s1
    obtain ⟨y, hy, ey⟩ := getZ_in ([0, 1, 2, 4294967296, 18446744073709551615] : List Int) t0 t1
    simp only [cond_true, hs, ht, bi_some, ex, ey]
    have : ∀ x ∈ ([0, 18230571291595767808, 2306139568115548160, 9223372036854775808, 18446744073709551615] : List Int), 0 ≤ x := by decide
    refine ⟨_, _, ?_, ?_, ?_, rfl⟩; exact this x hx; omega; omega
  | false =>
    cases (r == 1) with
    | true =>
      obtain ⟨t, t0, t1, ht⟩ := next_ok l (a + 1) 5 hl (by omega) (by omega) (by decide) (by decide)
      obtain ⟨y, hy, ey⟩ := getZ_in ([0, 1, 4294967295, 2130706433, 3232235521] : List Int) t0 t1
      simp only [cond_true, cond_false, ht, bi_some, ey]
      refine ⟨_, _, ?_, ?_, ?_, rfl⟩; exact Int.le_refl _; omega; omega
    | false =>
      cases (r == 2) with
      | true =>
        obtain ⟨x, _, _, hx⟩ := range_ok l (a + 1) 0 16777216 hl (by omega) (by omega) (by decide) (by decide) (by decide)
        simp only [cond_true, cond_false, hx, bi_some]
        refine ⟨_, _, ?_, ?_, ?_, rfl⟩; exact Int.le_refl _; omega; omega
      | false =>
        obtain ⟨x, _, _, hx⟩ := range_ok l (a + 1) 0 20 hl (by omega) (by omega) (by decide) (by decide) (by decide)
        simp only [cond_false, hx, bi_some]
        refine ⟨_, _, ?_, ?_, ?_, rfl⟩; exact Int.le_refl _; omega; omega
theorem rawD (l : List Int) (a : Int) (hl : l.length ≤ 9223372036854775807) (h0 : 0 ≤ a) (h1 : a < 4611686018427370000) : Dr l a 10 (m_lanemake_Stream_Raw ⟨l, a⟩) addrR := by
  obtain ⟨x, b, p, q1, q2, e⟩ := addrD l a hl h0 (by omega)
  obtain ⟨f, hf⟩ := flip_ok l b 15 hl (by omega) (by omega) (by decide) (by decide)
  unfold m_lanemake_Stream_Raw Dr
  rw [e]
  simp only [bi_some, hf]
  cases f with
  | false => refine ⟨_, _, ?_, ?_, ?_, rfl⟩; exact p; omega; omega
  | true =>
    obtain ⟨s, s0, s1, hs⟩ := next_ok l (b + 1) 2 hl (by omega) (by omega) (by decide) (by decide)
    obtain ⟨t, t0, t1, ht⟩ := next_ok l (b + 1 + 1) 3 hl (by omega) (by omega) (by decide) (by decide)
    obtain ⟨y, hy, ey⟩ := getZ_in ([4294967296, 5, 1099511627776] : List Int) t0 t1
    simp only [cond_true, hs, ht, bi_some, ey]
    refine ⟨_, _, ?_, ?_, ?_, rfl⟩; exact u64_nn _; omega; omega
theorem oddD (l : List Int) (a lo hi : Int) (hl : l.length ≤ 9223372036854775807) (h0 : 0 ≤ a) (h1 : a < 4611686018427370000) (h2 : lo ≤ hi) (h3 : -1000000000 ≤ lo) (h4 : hi ≤ 1000000000) : Dr l a 5 (m_lanemake_Stream_Odd ⟨l, a⟩ lo hi) fun _ => True := by
  obtain ⟨f, hf⟩ := flip_ok l a 12 hl (by omega) (by omega) (by decide) (by decide)
  unfold m_lanemake_Stream_Odd Dr
  rw [hf]
  simp only [bi_some]
  cases f with
  | true =>
    obtain ⟨x, _, hx⟩ := pick_ok l (a + 1) [wi (lo - 1), wi (hi + 1), lo, hi, -1099511627776, 1099511627776] hl (by omega) (by omega) (by simp) (by simp)
    simp only [cond_true, hx, bi_some]
    refine ⟨_, _, ?_, ?_, ?_, rfl⟩; exact trivial; omega; omega
  | false =>
    obtain ⟨x, _, _, hx⟩ := range_ok l (a + 1) lo hi hl (by omega) (by omega) h2 h3 h4
    simp only [cond_false, hx, bi_some]
    refine ⟨_, _, ?_, ?_, ?_, rfl⟩; exact trivial; omega; omega
theorem toT : ∀ x ∈ ([[97, 46, 110, 101, 116, 46, 120], [98, 46, 110, 101, 116, 46, 120], [99, 46, 110, 101, 116, 46, 120], [113, 46, 108, 97, 98, 46, 110, 101, 116, 46, 120], [100, 46, 110, 101, 116, 46, 120], [111, 116, 104, 101, 114]] : List Str), x.length ≤ 300 := by decide
theorem toT2 : ∀ x ∈ ([[97, 46, 110, 101, 116, 46, 120], [98, 46, 110, 101, 116, 46, 120]] : List Str), x.length ≤ 300 := by decide
theorem toT3 : ∀ x ∈ ([[], [65], [120]] : List Str), x.length ≤ 300 := by decide
theorem woT : ∀ x ∈ ([[], [104, 105], [97, 32, 98], [118, 61, 49]] : List Str), x ∈ wordsT := by decide
theorem woT2 : ∀ x ∈ ([[32, 120], [97, 10, 98], [], [121]] : List Str), x ∈ wordsT := by decide
theorem recD (l : List Int) (a : Int) (name : Str) (hl : l.length ≤ 9223372036854775807) (h0 : 0 ≤ a) (h1 : a < 4611686018427360000) (hn : name.length ≤ 300) : Dr l a 30 (m_lanemake_Stream_record ⟨l, a⟩ name) okRec := by
  obtain ⟨life, _, hlife⟩ := pick_ok l a [0, 5, 60, 1000000] hl (by omega) (by omega) (by decide) (by decide)
  obtain ⟨kd, k0, k1, hkd⟩ := next_ok l (a + 1) 7 hl (by omega) (by omega) (by decide) (by decide)
  unfold m_lanemake_Stream_record Dr
  rw [hlife]
  simp only [bi_some, hkd]
  generalize hX : (bi (bif (kd == 0) then (some (kd == 0)) else (some (kd == 1))) fun q7 => bif q7 then _ else _ : Option (T_lanemake_Stream × T_api_Record)) = X
  have hq : ∃ r b, okRec r ∧ a + 2 ≤ b ∧ b ≤ a + 5 ∧ X = some (⟨l, b⟩, r) := by
    subst hX
    generalize hb01 : (bif (kd == 0) then (some (kd == 0)) else (some (kd == 1))) = b01
    obtain ⟨b, rfl⟩ : ∃ b, b01 = some b := by subst hb01; cases (kd == 0) <;> exact ⟨_, rfl⟩
    simp only [bi_some]
    have w0 : ([] : Str) ∈ wordsT := by decide
    cases b with
    | true =>
      obtain ⟨x, _, _, hx⟩ := range_ok l (a + 1 + 1) 1 3 hl (by omega) (by omega) (by decide) (by decide) (by decide)
      simp only [cond_true, hx, bi_some, m_lanemake_at]
      refine ⟨_, _, ?_, ?_, ?_, rfl⟩; exact ⟨hn, by simp, w0, Int.le_refl _⟩; omega; omega
    | false =>
      cases (kd == 2) with
      | true =>
        obtain ⟨x, _, _, hx⟩ := range_ok l (a + 1 + 1) 1 3 hl (by omega) (by omega) (by decide) (by decide) (by decide)
        simp only [cond_true, cond_false, hx, bi_some, m_lanemake_sixAt]
        refine ⟨_, _, ?_, ?_, ?_, rfl⟩; exact ⟨hn, by simp, w0, (by decide : (0 : Int) ≤ 18230571291595767808)⟩; omega; omega
      | false =>
        cases (kd == 3) with
        | true =>
          obtain ⟨x, hx, e⟩ := some_ok l (a + 1 + 1) [[], [104, 105], [97, 32, 98], [118, 61, 49]] hl (by omega) (by omega) (by decide) (by decide)
          simp only [cond_true, cond_false, e, bi_some]
          refine ⟨_, _, ?_, ?_, ?_, rfl⟩; exact ⟨hn, by simp, woT x hx, Int.le_refl _⟩; omega; omega
        | false =>
          cases (kd == 4) with
          | true =>
            obtain ⟨x, hx, e⟩ := some_ok l (a + 1 + 1) [[97, 46, 110, 101, 116, 46, 120], [98, 46, 110, 101, 116, 46, 120]] hl (by omega) (by omega) (by decide) (by decide)
            simp only [cond_true, cond_false, e, bi_some]
            refine ⟨_, _, ?_, ?_, ?_, rfl⟩; exact ⟨hn, toT2 x hx, w0, Int.le_refl _⟩; omega; omega
          | false =>
            obtain ⟨x, hx, e⟩ := some_ok l (a + 1 + 1) [[97, 46, 110, 101, 116, 46, 120], [98, 46, 110, 101, 116, 46, 120], [99, 46, 110, 101, 116, 46, 120], [113, 46, 108, 97, 98, 46, 110, 101, 116, 46, 120], [100, 46, 110, 101, 116, 46, 120], [111, 116, 104, 101, 114]] hl (by omega) (by omega) (by decide) (by decide)
            simp only [cond_false, e, bi_some]
            refine ⟨_, _, ?_, ?_, ?_, rfl⟩; exact ⟨hn, toT x hx, w0, Int.le_refl _⟩; omega; omega
  obtain ⟨r, b, ⟨p1, p2, p3, p4⟩, q1, q2, rfl⟩ := hq
  obtain ⟨f, hf⟩ := flip_ok l b 40 hl (by omega) (by omega) (by decide) (by decide)
  simp only [bi_some, hf]
  cases f with
  | false => refine ⟨_, _, ?_, ?_, ?_, rfl⟩; exact ⟨p1, p2, p3, p4⟩; omega; omega
  | true =>
    obtain ⟨k, k0, k1, hk⟩ := next_ok l (b + 1) 4 hl (by omega) (by omega) (by decide) (by decide)
    simp only [cond_true, hk, bi_some]
    cases (k == 0) with
    | true =>
      obtain ⟨x, _, e⟩ := pick_ok l (b + 1 + 1) [0, 2, 5] hl (by omega) (by omega) (by decide) (by decide)
      simp only [cond_true, e, bi_some]
      refine ⟨_, _, ?_, ?_, ?_, rfl⟩; exact ⟨p1, p2, p3, p4⟩; omega; omega
    | false =>
      cases (k == 1) with
      | true =>
        obtain ⟨x, c, p, c1, c2, e⟩ := rawD l (b + 1 + 1) hl (by omega) (by omega)
        simp only [cond_true, cond_false, e, bi_some]
        refine ⟨_, _, ?_, ?_, ?_, rfl⟩; exact ⟨p1, p2, p3, p⟩; omega; omega
      | false =>
        cases (k == 2) with
        | true =>
          obtain ⟨x, hx, e⟩ := some_ok l (b + 1 + 1) [[], [65], [120]] hl (by omega) (by omega) (by decide) (by decide)
          simp only [cond_true, cond_false, e, bi_some]
          refine ⟨_, _, ?_, ?_, ?_, rfl⟩; exact ⟨p1, toT3 x hx, p3, p4⟩; omega; omega
        | false =>
          obtain ⟨x, hx, e⟩ := some_ok l (b + 1 + 1) [[32, 120], [97, 10, 98], [], [121]] hl (by omega) (by omega) (by decide) (by decide)
          obtain ⟨y, c, _, c1, c2, e2⟩ := oddD l (b + 1 + 1 + 1) 0 1000000 hl (by omega) (by omega) (by decide) (by decide) (by decide)
          simp only [cond_false, e, bi_some, e2]
          refine ⟨_, _, ?_, ?_, ?_, rfl⟩; exact ⟨p1, p2, woT2 x hx, p4⟩; omega; omega

theorem cmpK_ok (a b : T_api_Record) : ∃ c, m_lanemake_Stream_Zone_1 a b = some c := by
  unfold m_lanemake_Stream_Zone_1 m_slices_Compare_int_int
  generalize hf : (fun (i1 : Nat) (x4 : Int) (s3 : Unit) => _) = f
  obtain ⟨r, hr⟩ := rangeM_ex (f := f) [a.Kind, wi a.Addr.Lo] 0 (by
    intro j x hj _
    subst hf
    simp only [List.length_cons, List.length_nil] at hj ⊢
    rw [decide_eq_false (show ¬ ((j : Int) ≥ ((0 + 1 + 1 : Nat) : Int)) by omega)]
    obtain ⟨y, _, hy⟩ := getZ_in [b.Kind, wi b.Addr.Lo] (r := (j : Int)) (by omega) (by simp; omega)
    simp only [cond_false, hy, bi_some, cmpInt_ok]
    cases (cmpI x y != 0) <;> exact ⟨_, rfl⟩)
  rw [hr]
  cases r with
  | out v => exact ⟨_, rfl⟩
  | go u => exact ⟨_, rfl⟩
theorem set_mem {l : List T_api_Record} {p : T_api_Record → Prop} (h : ∀ x ∈ l, p x) {i : Nat} {y : T_api_Record} (hy : p y) : ∀ x ∈ l.set i y, p x := fun x hx => by
  rcases List.mem_or_eq_of_mem_set hx with h' | rfl
  · exact h x h'
  · exact hy
theorem insertD (data : List T_api_Record) (hl : data.length ≤ 100) (h : ∀ x ∈ data, okRec x) : ∃ r, m_slices_insertionSortCmpFunc_api_Record 400 data 0 (data.length : Int) = some r ∧ r.length = data.length ∧ ∀ x ∈ r, okRec x := by
  unfold m_slices_insertionSortCmpFunc_api_Record
  generalize hf : (fun (s2 : List T_api_Record × Int) => _) = f
  have w1 : wi ((0 : Int) + 1) = 1 := rfl
  rw [w1]
  obtain ⟨r, e1, e2⟩ := loopM_ex (f := f) (fun s => s.1.length = data.length ∧ (∀ x ∈ s.1, okRec x) ∧ 1 ≤ s.2 ∧ s.2 ≤ 101) (fun s => (101 - s.2).toNat) (fun r => r.length = data.length ∧ ∀ x ∈ r, okRec x) (by
    rintro ⟨d, i⟩ ⟨i1, i2, i3, i4⟩
    simp only at i1 i2 i3 i4
    subst hf
    simp only
    by_cases hi : i < (data.length : Int)
    · rw [decide_eq_true hi]
      simp only [cond_true]
      generalize hg : (fun (s13 : List T_api_Record × Int) => _) = g
      obtain ⟨q, q1, q2⟩ := loopM_ex (f := g) (fun s => s.1.length = data.length ∧ (∀ x ∈ s.1, okRec x) ∧ 0 ≤ s.2 ∧ s.2 < data.length) (fun s => s.2.toNat) (fun r => r.length = data.length ∧ ∀ x ∈ r, okRec x) (by
        rintro ⟨e, j⟩ ⟨j1, j2, j3, j4⟩
        simp only at j1 j2 j3 j4
        subst hg
        simp only
        by_cases hj : j > 0
        · have wj : wi (j - 1) = j - 1 := wi_id (by omega) (by omega)
          obtain ⟨x, hx, ex⟩ := getZ_in e (r := j) (by omega) (by omega)
          obtain ⟨y, hy, ey⟩ := getZ_in e (r := j - 1) (by omega) (by omega)
          obtain ⟨c, hc⟩ := cmpK_ok x y
          rw [decide_eq_true hj, wj]
          simp only [cond_true, ex, ey, bi_some, hc]
          cases decide (c < 0) with
          | false => exact ⟨_, rfl, fun s' e => (by cases e), fun r e => (by cases e; exact ⟨j1, j2⟩)⟩
          | true => exact ⟨_, rfl, fun s' e => (by cases e; exact ⟨⟨by simpa using j1, set_mem (set_mem j2 (j2 y hy)) (j2 x hx), by simp only; omega, by simp only; omega⟩, by simp only; omega⟩), fun r e => (by cases e)⟩
        · rw [decide_eq_false hj]
          exact ⟨_, rfl, fun s' e => (by cases e), fun r e => (by cases e; exact ⟨j1, j2⟩)⟩)
        400 (d, i) ⟨i1, i2, by simp only; omega, hi⟩ (by simp only; omega)
      rw [q1]
      have wi1 : wi (i + 1) = i + 1 := wi_id (by omega) (by omega)
      simp only [bi_some, wi1]
      exact ⟨_, rfl, fun s' e => (by cases e; exact ⟨⟨q2.1, q2.2, by simp only; omega, by simp only; omega⟩, by simp only; omega⟩), fun r e => (by cases e)⟩
    · rw [decide_eq_false hi]
      exact ⟨_, rfl, fun s' e => (by cases e), fun r e => (by cases e; exact ⟨i1, i2⟩)⟩)
    400 (data, 1) ⟨rfl, h, (by decide : (1 : Int) ≤ 1), (by decide : (1 : Int) ≤ 101)⟩ (by simp)
  rw [e1]
  exact ⟨r, rfl, e2⟩
theorem sortD (data : List T_api_Record) (hl : data.length ≤ 19) (h : ∀ x ∈ data, okRec x) : ∃ r, m_slices_SortStableFunc_api_Record_api_Record 400 data = some r ∧ r.length = data.length ∧ ∀ x ∈ r, okRec x := by
  unfold m_slices_SortStableFunc_api_Record_api_Record m_slices_stableCmpFunc_api_Record
  obtain ⟨r, e1, e2, e3⟩ := insertD data (by omega) h
  have d1 : decide ((20 : Int) ≤ (data.length : Int)) = false := decide_eq_false (by omega)
  have d2 : decide ((20 : Int) < (data.length : Int)) = false := decide_eq_false (by omega)
  have d3 : decide (r.length = data.length) = true := decide_eq_true e2
  refine ⟨r, ?_, e2, e3⟩
  simp only [loopM, d1, cond_false, bi_some, e1, d3, gd_true, d2]
theorem zone2D (x y : T_api_Record) (l : List Int) (a : Int) (hl : l.length ≤ 9223372036854775807) (h0 : 0 ≤ a) (h1 : a < 4611686018427360000) : ∃ b a', m_lanemake_Stream_Zone_2 x y ⟨l, a⟩ = some (b, ⟨l, a'⟩) ∧ a ≤ a' ∧ a' ≤ a + 1 := by
  unfold m_lanemake_Stream_Zone_2
  obtain ⟨f, hf⟩ := flip_ok l a 20 hl h0 (by omega) (by decide) (by decide)
  generalize ((x.Kind == y.Kind) && (_ : Bool)) = c
  cases c with
  | true => simp only [cond_true, hf, bi_some]; exact ⟨_, _, rfl, by omega, by omega⟩
  | false => exact ⟨_, _, rfl, by omega, by omega⟩
theorem compactD (s : List T_api_Record) (l : List Int) (a : Int) (hs : s.length ≤ 19) (h : ∀ x ∈ s, okRec x) (hl : l.length ≤ 9223372036854775807) (h0 : 0 ≤ a) (h1 : a < 4611686018427350000) :
    ∃ r a', m_slices_CompactFunc_api_Record_api_Record 400 s ⟨l, a⟩ = some (r, ⟨l, a'⟩) ∧ r.length ≤ s.length ∧ (∀ x ∈ r, okRec x) ∧ a ≤ a' ∧ a' ≤ a + 100 := by
  unfold m_slices_CompactFunc_api_Record_api_Record
  by_cases h2 : (s.length : Int) < 2
  · rw [decide_eq_true h2]
    exact ⟨_, _, rfl, Nat.le_refl _, h, by omega, by omega⟩
  · rw [decide_eq_false h2]
    simp only [cond_false]
    generalize hf : (fun (s4 : T_lanemake_Stream × Int) => _) = f
    obtain ⟨r, e1, e2⟩ := loopM_ex (f := f) (fun t => 1 ≤ t.2 ∧ t.2 ≤ 20 ∧ ∃ b, t.1 = ⟨l, b⟩ ∧ a ≤ b ∧ b ≤ a + t.2) (fun t => (20 - t.2).toNat) (fun r => (∃ b, r = .inl ⟨l, b⟩ ∧ a ≤ b ∧ b ≤ a + 100) ∨ ∃ q b, r = .inr (q, ⟨l, b⟩) ∧ q.length ≤ s.length ∧ (∀ x ∈ q, okRec x) ∧ a ≤ b ∧ b ≤ a + 100) (by
      rintro ⟨t, i⟩ ⟨i1, i2, b, rfl, i3, i4⟩
      simp only at i1 i2 i4
      subst hf
      simp only
      by_cases hi : i < (s.length : Int)
      · have wj : wi (i - 1) = i - 1 := wi_id (by omega) (by omega)
        have wj2 : wi (i + 1) = i + 1 := wi_id (by omega) (by omega)
        obtain ⟨x, hx, ex⟩ := getZ_in s (r := i) (by omega) (by omega)
        obtain ⟨y, hy, ey⟩ := getZ_in s (r := i - 1) (by omega) (by omega)
        obtain ⟨c, b', hc, c1, c2⟩ := zone2D x y l b hl (by omega) (by omega)
        rw [decide_eq_true hi, wj, wj2]
        simp only [cond_true, ex, ey, bi_some, hc]
        cases c with
        | false => exact ⟨_, rfl, fun s' e => (by cases e; exact ⟨⟨by simp only; omega, by simp only; omega, _, rfl, by omega, by simp only; omega⟩, by simp only; omega⟩), fun r e => (by cases e)⟩
        | true =>
          have hsub : subZ s i (s.length : Int) = some (s.drop i.toNat) := by
            unfold subZ
            rw [decide_eq_true (show (0 : Int) ≤ i by omega), decide_eq_true (show i ≤ (s.length : Int) by omega), decide_eq_true (Int.le_refl _)]
            simp [List.take_of_length_le]
          simp only [cond_true, hsub, bi_some]
          have hzl : (s.drop i.toNat).length = s.length - i.toNat := List.length_drop
          generalize s.drop i.toNat = z at hzl
          generalize hg : (fun (s26 : List T_api_Record × T_lanemake_Stream × Int × Int) => _) = g
          obtain ⟨q, q1, q2⟩ := loopM_ex (f := g) (fun t => t.1.length = s.length ∧ (∀ x ∈ t.1, okRec x) ∧ i ≤ t.2.2.1 ∧ t.2.2.1 + 1 ≤ i + t.2.2.2 ∧ 1 ≤ t.2.2.2 ∧ t.2.2.2 ≤ (z.length : Int) ∧ ∃ b2, t.2.1 = ⟨l, b2⟩ ∧ a ≤ b2 ∧ b2 ≤ a + 25 + t.2.2.2) (fun t => (20 - t.2.2.2).toNat) (fun r => r.1.length = s.length ∧ (∀ x ∈ r.1, okRec x) ∧ 0 ≤ r.2.2 ∧ r.2.2 ≤ (s.length : Int) ∧ ∃ b2, r.2.1 = ⟨l, b2⟩ ∧ a ≤ b2 ∧ b2 ≤ a + 50) (by
            rintro ⟨d, t, j, k⟩ ⟨j1, j2, j3, j4, j5, j6, b2, rfl, j7, j8⟩
            simp only at j1 j2 j3 j4 j5 j6 j8
            subst hg
            simp only
            by_cases hk : k < (z.length : Int)
            · have v1 : wi (k - 1) = k - 1 := wi_id (by omega) (by omega)
              have v2 : wi (k + 1) = k + 1 := wi_id (by omega) (by omega)
              have v3 : wi (j + 1) = j + 1 := wi_id (by omega) (by omega)
              obtain ⟨x1, _, g1⟩ := getZ_in z (r := k) (by omega) hk
              obtain ⟨x2, m2, g2⟩ := getZ_in d (r := ((i.toNat + k.toNat : Nat) : Int)) (by omega) (by omega)
              obtain ⟨x3, _, g3⟩ := getZ_in z (r := k - 1) (by omega) (by omega)
              obtain ⟨x4, _, g4⟩ := getZ_in d (r := ((i.toNat + (k - 1).toNat : Nat) : Int)) (by omega) (by omega)
              obtain ⟨x5, _, g5⟩ := getZ_in d (r := j) (by omega) (by omega)
              obtain ⟨c, b', hc, c1, c2⟩ := zone2D x2 x4 l b2 hl (by omega) (by omega)
              rw [decide_eq_true hk, v1, v2, v3]
              simp only [cond_true, g1, g2, g3, g4, g5, bi_some, hc]
              cases c with
              | true => exact ⟨_, rfl, fun s' e => (by cases e; exact ⟨⟨j1, j2, j3, by simp only; omega, by simp only; omega, by simp only; omega, _, rfl, by omega, by simp only; omega⟩, by simp only; omega⟩), fun r e => (by cases e)⟩
              | false => exact ⟨_, rfl, fun s' e => (by cases e; exact ⟨⟨by simpa using j1, set_mem j2 (j2 x2 m2), by simp only; omega, by simp only; omega, by simp only; omega, by simp only; omega, _, rfl, by omega, by simp only; omega⟩, by simp only; omega⟩), fun r e => (by cases e)⟩
            · rw [decide_eq_false hk]
              exact ⟨_, rfl, fun s' e => (by cases e), fun r e => (by cases e; exact ⟨j1, j2, by simp only; omega, by simp only; omega, b2, rfl, by omega, by omega⟩)⟩)
            400 (s, ⟨l, b'⟩, i, 1) ⟨rfl, h, by simp only; omega, by simp only; omega, by simp only; omega, by simp only; omega, b', rfl, by omega, by simp only; omega⟩ (by simp only; omega)
          rw [q1]
          obtain ⟨p1, p2, p3, p4, b2, p5, p6, p7⟩ := q2
          have hsub2 : ∃ z, subZ q.1 q.2.2 (q.1.length : Int) = some z := by
            unfold subZ
            rw [decide_eq_true p3, decide_eq_true (show q.2.2 ≤ (q.1.length : Int) by omega), decide_eq_true (Int.le_refl _)]
            exact ⟨_, rfl⟩
          obtain ⟨z2, hz2⟩ := hsub2
          simp only [bi_some, hz2]
          refine ⟨_, rfl, fun s' e => (by cases e), fun r e => ?_⟩
          cases e
          exact .inr ⟨_, b2, by rw [p5], by simp; omega, fun x hx => p2 x (List.mem_of_mem_take hx), by omega, by omega⟩
      · rw [decide_eq_false hi]
        exact ⟨_, rfl, fun s' e => (by cases e), fun r e => (by cases e; exact .inl ⟨b, rfl, by omega, by omega⟩)⟩)
      400 (⟨l, a⟩, 1) ⟨(by decide : (1 : Int) ≤ 1), (by decide : (1 : Int) ≤ 20), a, rfl, by omega, by simp only; omega⟩ (by simp)
    rw [e1]
    rcases e2 with ⟨b, rfl, b1, b2⟩ | ⟨q, b, rfl, q1, q2, b1, b2⟩
    · exact ⟨s, b, rfl, Nat.le_refl _, h, b1, b2⟩
    · exact ⟨q, b, rfl, q1, q2, b1, b2⟩

def znames : List Str := [[42, 46, 108, 97, 98, 46, 110, 101, 116, 46, 120], [42, 46, 110, 101, 116, 46, 120], [97, 46, 110, 101, 116, 46, 120], [98, 46, 110, 101, 116, 46, 120], [99, 46, 110, 101, 116, 46, 120], [100, 101, 101, 112, 46, 97, 46, 110, 101, 116, 46, 120], [110, 101, 116, 46, 120], [115, 46, 116, 46, 110, 101, 116, 46, 120]]
theorem znames_len : ∀ x ∈ znames, x.length ≤ 300 := by decide
theorem zoneD (l : List Int) (a : Int) (hl : l.length ≤ 9223372036854775807) (h0 : 0 ≤ a) (h1 : a < 4611686018427300000) :
    ∃ z a', okZone z ∧ z.Records.length ≤ 24 ∧ a ≤ a' ∧ a' ≤ a + 3000 ∧ m_lanemake_Stream_Zone 400 ⟨l, a⟩ = some (z, ⟨l, a'⟩) := by
  unfold m_lanemake_Stream_Zone
  generalize hf : (fun (i1 : Nat) (x3 : Str) (s2 : T_lanemake_Stream × List T_api_Record) => _) = f
  obtain ⟨r, hr, hI⟩ := rangeF_inv (f := f) 8 (fun i s => ∃ b, s.1 = ⟨l, b⟩ ∧ a ≤ b ∧ b ≤ a + 300 * i ∧ s.2.length ≤ 3 * i ∧ ∀ x ∈ s.2, okRec x) znames 0 (⟨l, a⟩, []) (by decide) ⟨a, rfl, Int.le_refl _, by omega, by simp, fun p hp => by cases hp⟩ (by
    rintro j x ⟨s, y⟩ hj ⟨b, rfl, q1, q2, q3, q4⟩ hx
    simp only at q3 q4
    have hxl := znames_len x hx
    subst hf
    obtain ⟨c, hc⟩ := flip_ok l b 3 hl (by omega) (by omega) (by decide) (by decide)
    simp only [hc, bi_some]
    cases c with
    | true => exact ⟨_, rfl, b + 1, rfl, by omega, by push_cast; omega, by simp only; omega, q4⟩
    | false =>
      obtain ⟨n, hn, en⟩ := pick_ok l (b + 1) [1, 1, 2, 3] hl (by omega) (by omega) (by decide) (by decide)
      have hn3 : ∀ n ∈ ([1, 1, 2, 3] : List Int), 1 ≤ n ∧ n ≤ 3 := by decide
      obtain ⟨n1, n2⟩ := hn3 n hn
      simp only [cond_false, en, bi_some]
      rw [decide_eq_true (show n ≤ 9223372036854775807 by omega), gd_true]
      unfold rangeG
      generalize hg : (fun (i : Nat) (_ : Unit) (s : T_lanemake_Stream × List T_api_Record) => _) = g
      obtain ⟨q, e1, b3, e2, e3, e4, e5, e6⟩ := rangeF_inv (f := g) 3 (fun i s => ∃ b3, s.1 = ⟨l, b3⟩ ∧ b ≤ b3 ∧ b3 ≤ b + 2 + 40 * i ∧ s.2.length ≤ i ∧ ∀ x ∈ s.2, okRec x) (List.replicate n.toNat ()) 0 (⟨l, b + 1 + 1⟩, []) (by simp; omega) ⟨b + 1 + 1, rfl, by omega, by omega, by simp, fun p hp => by cases hp⟩ (by
        rintro i u ⟨s, d⟩ hi ⟨b3, rfl, k1, k2, k3, k4⟩ _
        simp only at k3 k4
        subst hg
        obtain ⟨r, b4, r1, r2, r3, er⟩ := recD l b3 x hl (by omega) (by omega) hxl
        simp only [er, bi_some]
        have hq : ∃ t, (bif ((d.length : Int) == 0) then (some true) else (bi (bif (r.Kind != 5) then (bi (getZ d 0) fun x39 => some (x39.Kind != 5)) else (some false)) fun q36 => some q36)) = some t := by
          cases hd : ((d.length : Int) == 0) with
          | true => exact ⟨_, rfl⟩
          | false =>
            have : (d.length : Int) ≠ 0 := by simpa using hd
            obtain ⟨y, _, hy⟩ := getZ_in d (r := 0) (by omega) (by omega)
            rw [hy]
            cases (r.Kind != 5) <;> exact ⟨_, rfl⟩
        obtain ⟨t, ht⟩ := hq
        rw [ht]
        obtain ⟨fl, hfl⟩ := flip_ok l b4 15 hl (by omega) (by omega) (by decide) (by decide)
        have happ : apd d [r] = some (d ++ [r]) := apd_some (by simp only [List.length_cons, List.length_nil]; omega)
        simp only [bi_some, hfl, happ]
        have hall : ∀ x ∈ d ++ [r], okRec x := fun x hx => by
          rcases List.mem_append.1 hx with h | h
          · exact k4 x h
          · obtain rfl := List.mem_singleton.1 h; exact r1
        cases t with
        | true => exact ⟨_, rfl, b4, rfl, by omega, by push_cast; omega, by simp only [List.length_append, List.length_cons, List.length_nil]; omega, hall⟩
        | false =>
          cases fl with
          | true => exact ⟨_, rfl, b4 + 1, rfl, by omega, by push_cast; omega, by simp only [List.length_append, List.length_cons, List.length_nil]; omega, hall⟩
          | false => exact ⟨_, rfl, b4 + 1, rfl, by omega, by push_cast; omega, by simp only; omega, k4⟩)
      obtain ⟨qs, qd⟩ := q
      simp only [List.length_replicate] at e4 e5
      simp only at e2 e5 e6
      subst e2
      have hnn : ((0 + n.toNat : Nat) : Int) ≤ 3 := by omega
      obtain ⟨sd, s1, s2, s3⟩ := sortD qd (by omega) e6
      obtain ⟨cd, b5, c1, c2, c3, c4, c5⟩ := compactD sd l b3 (by omega) s3 hl (by omega) (by omega)
      have happ : apd y cd = some (y ++ cd) := apd_some (by omega)
      rw [e1]
      simp only [bi_some, s1, s2, decide_true, gd_true, c1, happ]
      refine ⟨_, rfl, b5, rfl, by omega, by push_cast; omega, by simp only [List.length_append]; omega, fun x hx => ?_⟩
      rcases List.mem_append.1 hx with h | h
      · exact q4 x h
      · exact c3 x h)
  obtain ⟨s, y⟩ := r
  obtain ⟨b, e, q1, q2, q3, q4⟩ := hI
  simp only at e q3 q4
  subst e
  have hzl : znames.length = 8 := rfl
  rw [hzl] at q2 q3
  unfold znames at hr
  rw [hr]
  obtain ⟨c, hc⟩ := flip_ok l b 30 hl (by omega) (by omega) (by decide) (by decide)
  simp only [bi_some, hc]
  cases c with
  | false => exact ⟨_, _, ⟨by simp, by simp only; omega, q4⟩, by simp only; omega, by omega, by omega, rfl⟩
  | true =>
    obtain ⟨d, hd, e1⟩ := domain_ok l (b + 1) hl (by omega) (by omega)
    simp only [cond_true, e1, bi_some]
    exact ⟨_, _, ⟨hd, by simp only; omega, q4⟩, by simp only; omega, by omega, by omega, rfl⟩

theorem named_ok : m_lanelaw1_named 400 = some true := by rfl
theorem or3 (a b c : Int) : m_cmp_Or_api_Errno [a, b, c] = some (if a = 0 then (if b = 0 then c else b) else a) := by
  unfold m_cmp_Or_api_Errno
  by_cases h : a = 0
  · subst h
    by_cases h2 : b = 0
    · subst h2
      by_cases h3 : c = 0
      · subst h3; rfl
      · have : (c != 0) = true := by simpa using h3
        simp [rangeM, this, goI]
    · have : (b != 0) = true := by simpa using h2
      simp [rangeM, this, goI, h2]
  · have : (a != 0) = true := by simpa using h
    simp [rangeM, this, goI, h]
theorem equalR (l : List T_api_Record) (hl : l.length ≤ 1000000) : m_slices_Equal_api_Record_api_Record l l = some true := by
  unfold m_slices_Equal_api_Record_api_Record
  have : ((l.length : Int) != (l.length : Int)) = false := by simp
  rw [this]
  simp only [cond_false]
  rw [rangeM_all (fun _ => true) false l 0 (fun j x hx => by
    rw [Nat.zero_add, getZ_cast, hx]
    simp only [bi_some, beq_self_eq_true, Bool.and_true, Bool.not_true, cond_false, if_true])]
  simp [goI]
def nms : List Str := [[97, 46, 110, 101, 116, 46, 120], [98, 46, 110, 101, 116, 46, 120], [99, 46, 110, 101, 116, 46, 120], [115, 46, 116, 46, 110, 101, 116, 46, 120], [116, 46, 110, 101, 116, 46, 120], [120, 46, 108, 97, 98, 46, 110, 101, 116, 46, 120], [120, 46, 121, 46, 108, 97, 98, 46, 110, 101, 116, 46, 120], [108, 97, 98, 46, 110, 101, 116, 46, 120], [110, 101, 119, 46, 110, 101, 116, 46, 120], [110, 101, 116, 46, 120], [120, 46, 97, 46, 110, 101, 116, 46, 120]]
theorem nms_len : ∀ x ∈ nms, x.length ≤ 300 := by decide
theorem domF_nil {s : Str} (h : domF s = 0) : s ≠ [] := by
  rintro rfl
  revert h
  decide
theorem ZonesFound_true (l : List Int) (hl : l.length ≤ 9223372036854775807) : m_lanelaw1_ZonesFound 400 l = some true := by
  obtain ⟨z, a1, hz, hz24, ha1, ha1', e1⟩ := zoneD l 0 hl (by decide) (by decide)
  obtain ⟨d, hd, e2⟩ := domain_ok l a1 hl (by omega) (by omega)
  obtain ⟨kind, _, e3⟩ := pick_ok l (a1 + 2) [1, 1, 1, 28, 5, 16, 12, 0] hl (by omega) (by omega) (by decide) (by decide)
  obtain ⟨f, e4⟩ := flip_ok l (a1 + 2 + 1) 3 hl (by omega) (by omega) (by decide) (by decide)
  obtain ⟨nm, hnm, e5⟩ := some_ok l (a1 + 2 + 1 + 1) nms hl (by omega) (by omega) (by decide) (by decide)
  obtain ⟨ef, f1, f2, f3⟩ := zone_ok z hz
  unfold m_lanelaw1_ZonesFound
  simp only [e1, bi_some, e2, m_lanemake_Stream_RecordKind, e3, e4]
  generalize hX : (bif !f then _ else _ : Option (T_lanemake_Stream × Str)) = X
  obtain ⟨st, n, hn, rfl⟩ : ∃ (st : T_lanemake_Stream) (n : Str), n.length ≤ 300 ∧ X = some (st, n) := by
    subst hX
    cases f with
    | true => exact ⟨_, d, hd, rfl⟩
    | false =>
      unfold nms at e5
      rw [e5]
      exact ⟨_, nm, nms_len nm hnm, rfl⟩
  have hdf := fault_ok n (by omega)
  have hcd := check_ok 398 n (by omega)
  have hk : m_laneref1_Kinds = some [1, 5, 12, 16, 28] := rfl
  obtain ⟨u, u1, u2⟩ := under_ok n z.Root (by omega) (by have := hz.1; omega)
  have hw : m_lanelaw1_when (!kindB kind) 4 = some (if kindB kind then 0 else 4) := by
    unfold m_lanelaw1_when
    cases kindB kind <;> rfl
  have hnl : ((ef : Int) != ef) = false := by simp
  simp only [bi_some, f1, f2, hdf, hk, kinds_ok, hw, or3, hnl, cond_false, named_ok]
  by_cases h1 : ef = 0
  · obtain ⟨g1, g2⟩ := f3 h1
    have hrn := domF_nil g1
    subst h1
    simp only [if_true]
    by_cases h2 : domF n = 0
    · simp only [h2, if_true]
      cases h3 : kindB kind with
      | false =>
        have hF : m_name_Find 400 z n kind = some ([], 4) := by
          unfold m_name_Find
          rw [f1, hcd, isKind_ok, h3, h2]
          rfl
        rw [hF]
        rfl
      | true =>
        cases u with
        | false =>
          have hF : m_name_Find 400 z n kind = some ([], 16) := by
            unfold m_name_Find
            rw [f1, hcd, isKind_ok, h3, h2, u1]
            rfl
          have hG : m_laneref1_FindIn 400 z n kind = some ([], 16) := by
            unfold m_laneref1_FindIn
            rw [under_eq, u1]
            rfl
          rw [hF, hG]
          rfl
        | true =>
          obtain ⟨r, r1, r2⟩ := find_ok z n kind hz hn hrn (u2.1 (.inr rfl)) g2 u1
          have hF : m_name_Find 400 z n kind = some r := by
            unfold m_name_Find
            rw [f1, hcd, isKind_ok, h3, h2, u1, r1]
            rfl
          rw [hF, r2]
          have hE : m_slices_Equal_api_Record_api_Record r.1 r.1 = some true := by
            unfold m_slices_Equal_api_Record_api_Record
            have : ((r.1.length : Int) != (r.1.length : Int)) = false := by simp
            rw [this]
            simp only [cond_false]
            rw [rangeM_all (fun _ => true) false r.1 0 (fun j x hx => by
              rw [Nat.zero_add, getZ_cast, hx]
              simp only [bi_some, beq_self_eq_true, Bool.and_true, Bool.not_true, cond_false, if_true])]
            simp [goI]
          simp [hE]
    · have bt : (domF n != 0) = true := by simpa using h2
      have hF : m_name_Find 400 z n kind = some ([], domF n) := by
        unfold m_name_Find
        rw [f1, hcd]
        simp only [bi_some, bt, cond_true]
        rfl
      rw [hF]
      simp [h2, bt]
  · have bt : (ef != 0) = true := by simpa using h1
    have hF : m_name_Find 400 z n kind = some ([], ef) := by
      unfold m_name_Find
      rw [f1]
      simp only [bi_some, bt, cond_true]
    rw [hF]
    simp [h1, bt]
end Go.Gk
