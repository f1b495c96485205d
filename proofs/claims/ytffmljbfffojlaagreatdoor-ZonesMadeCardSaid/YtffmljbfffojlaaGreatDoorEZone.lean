/-
  Records and zones, two ways.
-/
import Derived.Test.YtffmljbfffojlaaGreatDoorELabel
set_option linter.unusedVariables false
set_option linter.unusedSimpArgs false
set_option linter.unusedSectionVars false
set_option maxRecDepth 100000
namespace Go.Gk
/-- z is name, or above it. -/
def UP (name z : Str) : Prop := z = [] ∨ name = z ∨ ∃ u, name = u ++ 46 :: z
theorem UP.suf {name z : Str} (h : UP name z) : z <:+ name := by
  rcases h with rfl | rfl | ⟨u, rfl⟩
  · exact List.nil_suffix
  · exact List.suffix_refl _
  · exact ⟨u ++ [46], by simp⟩
theorem under_ok (name z : Str) (h1 : name.length ≤ 1000000) (h2 : z.length ≤ 1000000) : ∃ b, m_name_under name z = some b ∧ (z = [] ∨ b = true ↔ UP name z) := by
  unfold m_name_under m_strings_HasSuffix
  rw [cat_ok (by simp; omega)]
  simp only [bi_some, Nat.ble_eq_true_of_le (show name.length ≤ 1099511627776 by omega), gd_true]
  cases he : (name == z) with
  | true =>
    have : name = z := by simpa using he
    exact ⟨true, rfl, fun _ => .inr (.inl this), fun _ => .inr rfl⟩
  | false =>
    have hne : name ≠ z := by simpa using he
    refine ⟨_, rfl, ?_⟩
    simp only [Lib.hasSuffix, List.isSuffixOf_iff_suffix]
    constructor
    · rintro (rfl | ⟨u, e⟩)
      · exact .inl rfl
      · exact .inr (.inr ⟨u, by simpa using e.symm⟩)
    · rintro (rfl | e | ⟨u, e⟩)
      · exact .inl rfl
      · exact absurd e hne
      · exact .inr ⟨u, by simpa using e.symm⟩

theorem rangeM_ex3 {α ρ : Type} {f g : Nat → α → Unit → Option (LS Unit ρ)} (p : ρ → Prop) : ∀ (l : List α) (i : Nat), (∀ j x, j < i + l.length → x ∈ l → ∃ y, f j x () = some y ∧ g j x () = some y ∧ ∀ v, y = .out v → p v) → ∃ r, rangeM f i l () = some r ∧ rangeM g i l () = some r ∧ ∀ v, r = .out v → p v
  | [], i, _ => ⟨_, rfl, rfl, fun v h => by cases h⟩
  | x :: l, i, h => by
    obtain ⟨y, h1, h2, h3⟩ := h i x (by simp) List.mem_cons_self
    simp only [rangeM, h1, h2]
    cases y with
    | out r => exact ⟨_, rfl, rfl, fun v h => by cases h; exact h3 _ rfl⟩
    | go s' => exact rangeM_ex3 p l (i + 1) fun j y hj hy => h j y (by simp only [List.length_cons]; omega) (List.mem_cons_of_mem _ hy)

def wordsT : List Str := [[], [104, 105], [97, 32, 98], [118, 61, 49], [32, 120], [97, 10, 98], [121]]
theorem plain_tab : ∀ w ∈ wordsT, ∃ b, m_kit_IsPlain 400 w = some b ∧ m_laneref1_plain w = some b ∧ w.length ≤ 200 ∧ (w = [] → b = true) := by
  intro w hw
  simp only [wordsT, List.mem_cons, List.not_mem_nil, or_false] at hw
  rcases hw with rfl | rfl | rfl | rfl | rfl | rfl | rfl <;> exact ⟨_, rfl, rfl, by decide, fun h => by first | rfl | cases h⟩
def okRec (r : T_api_Record) : Prop := r.Name.length ≤ 300 ∧ r.To.length ≤ 300 ∧ r.Words ∈ wordsT ∧ 0 ≤ r.Addr.Hi
theorem addr_ok (a : T_api_Addr) (h : 0 ≤ a.Hi) : ∃ e, m_addr_CheckAddr a = some e ∧ m_laneref2_AddrFault a = some e := by
  unfold m_laneref2_AddrFault m_addr_CheckAddr
  have e1 : (a.Hi != 0) = decide (a.Hi > 0) := by rw [Bool.eq_iff_iff]; simp; omega
  have e2 : decide (a.Lo ≥ 4294967296) = decide (a.Lo > 4294967295) := by rw [Bool.eq_iff_iff]; simp; omega
  rw [e1, e2]
  cases (!a.Six && (decide (a.Hi > 0) || decide (a.Lo > 4294967295))) <;> exact ⟨_, rfl, rfl⟩
def kindB (k : Int) : Bool := k == 1 || (k == 5 || (k == 12 || (k == 16 || k == 28)))
theorem isKind_ok (k : Int) : m_name_isKind k = some (kindB k) := by
  unfold m_name_isKind kindB
  cases (k == 1) <;> cases (k == 5) <;> cases (k == 12) <;> cases (k == 16) <;> cases (k == 28) <;> rfl
theorem kinds_ok (k : Int) : m_slices_Contains_int_int [1, 5, 12, 16, 28] k = some (kindB k) := by
  unfold m_slices_Contains_int_int m_slices_Index_int_int kindB
  simp only [rangeM]
  cases (k == 1) <;> cases (k == 5) <;> cases (k == 12) <;> cases (k == 16) <;> cases (k == 28) <;> rfl
theorem b3 (e : Int) : (e != 0) = !(e == 0) := rfl
theorem recFault_ok (r : T_api_Record) (h : okRec r) : ∃ e, m_name_recordFault 400 r = some e ∧ m_laneref1_RecordFault r = some e := by
  obtain ⟨h1, h2, h3, h4⟩ := h
  obtain ⟨ab, a1, a2⟩ := addr_ok r.Addr h4
  obtain ⟨pl, p1, p2, p3, p4⟩ := plain_tab _ h3
  obtain ⟨ot, o1, o2⟩ := outside_in r.Life 0 1000000
  have hle := trim_le r.Name [42, 46]
  have d1 := check_ok 398 (Lib.trimPrefix r.Name [42, 46]) (by omega)
  have d2 := fault_ok (Lib.trimPrefix r.Name [42, 46]) (by omega)
  have d3 := check_ok 398 r.To (by omega)
  have d4 := fault_ok r.To (by omega)
  have hw : decide ((r.Words.length : Int) > 200) = false := decide_eq_false (by omega)
  have hb : m_name_bare r.Name = some (Lib.trimPrefix r.Name [42, 46]) := rfl
  have ht : m_strings_TrimPrefix r.Name [42, 46] = some (Lib.trimPrefix r.Name [42, 46]) := rfl
  have hk : m_laneref1_Kinds = some [1, 5, 12, 16, 28] := rfl
  have hha : m_name_hasAddr r.Kind = some ((r.Kind == 1) || (r.Kind == 28)) := rfl
  have hhn : m_name_hasName r.Kind = some ((r.Kind == 5) || (r.Kind == 12)) := rfl
  have hwe : (r.Words == []) = true → pl = true := fun e => p4 (by simpa using e)
  unfold m_name_recordFault m_laneref1_RecordFault
  rw [hb, ht, hk, hha, hhn]
  simp only [bi_some]
  rw [d1, d2, d3, d4, isKind_ok, kinds_ok, a1, a2, p1, p2, o1, o2]
  simp only [bi_some, hw]
  generalize (domF (Lib.trimPrefix r.Name [42, 46]) != 0) = x1
  generalize decide ((r.Name.length : Int) > 253) = x2
  cases x1 <;> cases x2 <;> try exact ⟨_, rfl, rfl⟩
  simp only [Bool.or_false, cond_false]
  cases hkb : kindB r.Kind with
  | false => exact ⟨_, rfl, rfl⟩
  | true =>
    simp only [Bool.not_true, cond_false]
    have hk' : r.Kind = 1 ∨ r.Kind = 5 ∨ r.Kind = 12 ∨ r.Kind = 16 ∨ r.Kind = 28 := by simpa [kindB] using hkb
    generalize (domF r.To != 0) = x3
    generalize (ab != 0) = x4
    generalize (r.Words == []) = x5 at hwe
    generalize (r.To == []) = x6
    generalize ((r.Addr.Six == false) && ((r.Addr.Hi == 0) && ((r.Addr.Lo == 0) && true))) = x7
    generalize r.Addr.Six = x8
    rcases hk' with e | e | e | e | e <;> rw [e] <;> cases x3 <;> cases x4 <;> cases x6 <;> cases x7 <;> cases x8 <;> cases ot <;> cases pl <;> cases x5 <;> first | exact ⟨_, rfl, rfl⟩ | (exfalso; exact absurd (hwe rfl) (by decide))

def cmpI (x y : Int) : Int := if x < y then -1 else if x > y then 1 else 0
theorem cmpInt_ok (x y : Int) : m_cmp_Compare_int x y = some (cmpI x y) := by
  unfold m_cmp_Compare_int m_cmp_isNaN_int cmpI
  have : ∀ z : Int, (z != z) = false := fun z => by simp
  rw [this, this]
  by_cases h : x < y
  · simp [h]
  · by_cases h2 : y < x <;> simp [h, h2]
theorem cmpU_ok (x y : Int) : m_cmp_Compare_uint64 x y = some (cmpI x y) := by
  unfold m_cmp_Compare_uint64 m_cmp_isNaN_uint64 cmpI
  have : ∀ z : Int, (z != z) = false := fun z => by simp
  rw [this, this]
  by_cases h : x < y
  · simp [h]
  · by_cases h2 : y < x <;> simp [h, h2]
theorem orInt_ok (x : Int) (l : List Int) : ∃ c, m_cmp_Or_int (x :: l) = some c ∧ (x ≠ 0 → c = x) := by
  unfold m_cmp_Or_int
  by_cases h : x = 0
  · generalize hf : (fun (i1 : Nat) (x3 : Int) (s2 : Unit) => _) = f
    obtain ⟨r, hr⟩ := rangeM_ex (f := f) (x :: l) 0 (by
      intro j x _ _
      subst hf
      simp only
      cases (x != 0) <;> exact ⟨_, rfl⟩)
    rw [hr]
    cases r <;> exact ⟨_, rfl, fun h2 => absurd h h2⟩
  · have : (x != 0) = true := by simpa using h
    exact ⟨x, by simp [rangeM, this, goI], fun _ => rfl⟩
theorem order_ok (a b : T_api_Record) : ∃ c, m_name_compareRecords a b = some c ∧ m_laneref1_recordOrder a b = some c ∧ (c < 0 → Lib.compareBytes a.Name b.Name ≤ 0) := by
  unfold m_name_compareRecords m_laneref1_recordOrder
  have hc : ∀ s t : Str, m_strings_Compare s t = some (Lib.compareBytes s t) := fun _ _ => rfl
  simp only [hc, bi_some, cmpInt_ok, cmpU_ok]
  obtain ⟨c, h1, h2⟩ := orInt_ok (Lib.compareBytes a.Name b.Name) [cmpI a.Kind b.Kind, cmpI a.Addr.Hi b.Addr.Hi, cmpI a.Addr.Lo b.Addr.Lo, Lib.compareBytes a.To b.To, Lib.compareBytes a.Words b.Words]
  rw [h1]
  refine ⟨c, rfl, rfl, fun hc => ?_⟩
  by_cases h0 : Lib.compareBytes a.Name b.Name = 0
  · omega
  · rw [h2 h0] at hc; omega
theorem cb_refl : ∀ a : Str, Lib.compareBytes a a = 0
  | [] => rfl
  | x :: a => by
    have := cb_refl a
    simp [Lib.compareBytes, this]
theorem cb_trans : ∀ a b c : Str, Lib.compareBytes a b ≤ 0 → Lib.compareBytes b c ≤ 0 → Lib.compareBytes a c ≤ 0
  | [], _, [], _, _ => by decide
  | [], _, _ :: _, _, _ => by simp [Lib.compareBytes]
  | _ :: _, [], _, h, _ => by simp [Lib.compareBytes] at h
  | _ :: _, _ :: _, [], _, h => by simp [Lib.compareBytes] at h
  | x :: a, y :: b, z :: c, h1, h2 => by
    have ih := cb_trans a b c
    simp only [Lib.compareBytes, UInt8.lt_iff_toNat_lt] at h1 h2 ⊢
    split at h1 <;> split at h2 <;> rename_i h3 h4
    · rw [if_pos (by omega)]; decide
    · split at h2
      · omega
      · rw [if_pos (by omega)]; decide
    · split at h1
      · omega
      · rw [if_pos (by omega)]; decide
    · split at h1
      · omega
      · split at h2
        · omega
        · rw [if_neg (by omega), if_neg (by omega)]
          exact ih h1 h2
theorem cb_anti : ∀ a b : Str, Lib.compareBytes a b ≤ 0 → Lib.compareBytes b a ≤ 0 → a = b
  | [], [], _, _ => rfl
  | [], _ :: _, _, h => by simp [Lib.compareBytes] at h
  | _ :: _, [], h, _ => by simp [Lib.compareBytes] at h
  | x :: a, y :: b, h1, h2 => by
    have ih := cb_anti a b
    simp only [Lib.compareBytes, UInt8.lt_iff_toNat_lt] at h1 h2
    by_cases h3 : x.toNat < y.toNat
    · rw [if_neg (by omega), if_pos h3] at h2; omega
    · by_cases h4 : y.toNat < x.toNat
      · rw [if_neg h3, if_pos h4] at h1; omega
      · rw [if_neg h3, if_neg h4] at h1
        rw [if_neg h4, if_neg h3] at h2
        have : x = y := UInt8.toNat_inj.1 (by omega)
        rw [this, ih h1 h2]

/-- No two records of one name, one of them an alias. -/
def Calm (R : List T_api_Record) : Prop := ∀ (i : Nat) (a b : T_api_Record), R[i]? = some a → R[i + 1]? = some b → Lib.compareBytes a.Name b.Name ≤ 0 ∧ (a.Name = b.Name → a.Kind ≠ 5 ∧ b.Kind ≠ 5)
def okZone (z : T_api_Zone) : Prop := z.Root.length ≤ 300 ∧ z.Records.length ≤ 100 ∧ ∀ r ∈ z.Records, okRec r
theorem under_eq (n z : Str) : m_laneref1_IsUnder n z = m_name_under n z := rfl
theorem bare_len (r : T_api_Record) (h : okRec r) : (Lib.trimPrefix r.Name [42, 46]).length ≤ 300 := by
  have := trim_le r.Name [42, 46]
  have := h.1
  omega

theorem rangeM_go {α ρ : Type} {f : Nat → α → Unit → Option (LS Unit ρ)} : ∀ (l : List α) (i : Nat) {s : Unit}, rangeM f i l () = some (.go s) → ∀ j x, l[j]? = some x → f (i + j) x () = some (.go ())
  | [], i, s, _, j, x, h => by simp at h
  | y :: l, i, s, h, j, x, hx => by
    simp only [rangeM] at h
    cases hf : f i y () with
    | none => rw [hf] at h; cases h
    | some q =>
      rw [hf] at h
      cases q with
      | out r => cases h
      | go u =>
        cases j with
        | zero => simp at hx; subst hx; exact hf
        | succ j => have := rangeM_go l (i + 1) h j x (by simpa using hx); rw [show i + (j + 1) = i + 1 + j by omega]; exact this
theorem zone_ok (z : T_api_Zone) (h : okZone z) : ∃ e, m_name_CheckZone 400 z = some e ∧ m_laneref1_ZoneFault z = some e ∧ (e = 0 → domF z.Root = 0 ∧ Calm z.Records) := by
  obtain ⟨h1, h2, h3⟩ := h
  unfold m_name_CheckZone m_laneref1_ZoneFault
  rw [check_ok 398 _ (by omega), fault_ok _ (by omega), decide_eq_false (show ¬ (z.Records.length : Int) > 2000 by omega)]
  simp only [bi_some, cond_false]
  cases hd : (domF z.Root != 0) with
  | true => exact ⟨_, rfl, rfl, fun e => by rw [e] at hd; cases hd⟩
  | false =>
    have hd0 : domF z.Root = 0 := by simpa using hd
    simp only [cond_false]
    generalize hf : (fun (i7 : Nat) (x9 : T_api_Record) (s8 : Unit) => _) = f
    generalize hg : (fun (i7 : Nat) (x9 : T_api_Record) (s8 : Unit) => _) = g
    obtain ⟨r, e1, e2, e3⟩ := rangeM_ex3 (f := f) (g := g) (fun v => v ≠ 0) z.Records 0 (by
      intro j x hj hx
      obtain ⟨rf, r1, r2⟩ := recFault_ok x (h3 x hx)
      have hb := bare_len x (h3 x hx)
      obtain ⟨u, u1, _⟩ := under_ok (Lib.trimPrefix x.Name [42, 46]) z.Root (by omega) (by omega)
      have hb1 : m_name_bare x.Name = some (Lib.trimPrefix x.Name [42, 46]) := rfl
      have hb2 : m_laneref1_bare x.Name = some (Lib.trimPrefix x.Name [42, 46]) := rfl
      subst hf; subst hg
      simp only [r1, r2, bi_some, hb1, hb2, under_eq, u1]
      cases hrf : (rf != 0) with
      | true => exact ⟨_, rfl, rfl, fun v e => by cases e; simpa using hrf⟩
      | false =>
        simp only [cond_false]
        cases u with
        | false => exact ⟨_, rfl, rfl, fun v e => by cases e; decide⟩
        | true =>
          simp only [Bool.not_true, cond_false]
          cases hj0 : ((j : Int) == 0) with
          | true => exact ⟨_, rfl, rfl, fun v e => by cases e⟩
          | false =>
            have hj1 : (j : Int) ≠ 0 := by simpa using hj0
            obtain ⟨o, _, ho⟩ := getZ_in z.Records (r := wi ((j : Int) - 1)) (by rw [wi_id (by omega) (by omega)]; omega) (by rw [wi_id (by omega) (by omega)]; omega)
            obtain ⟨c, c1, c2, _⟩ := order_ok o x
            simp only [cond_false, ho, bi_some, c1, c2]
            have hcomm : ((x.Kind == 5) || (o.Kind == 5)) = ((o.Kind == 5) || (x.Kind == 5)) := Bool.or_comm _ _
            rw [hcomm]
            cases (c == 0) with
            | true => exact ⟨_, rfl, rfl, fun v e => by cases e; decide⟩
            | false =>
              cases decide (c > 0) with
              | true => exact ⟨_, rfl, rfl, fun v e => by cases e; decide⟩
              | false =>
                cases ((o.Name == x.Name) && ((o.Kind == 5) || (x.Kind == 5))) with
                | true => exact ⟨_, rfl, rfl, fun v e => by cases e; decide⟩
                | false => exact ⟨_, rfl, rfl, fun v e => by cases e⟩)
    rw [e1, e2]
    cases r with
    | out v => exact ⟨v, rfl, rfl, fun e => absurd e (e3 v rfl)⟩
    | go u =>
      refine ⟨0, rfl, rfl, fun _ => ⟨hd0, fun i a b ha hb => ?_⟩⟩
      have hlt := (List.getElem?_eq_some_iff.1 hb).1
      have hx := h3 b (List.mem_of_getElem? hb)
      have := rangeM_go z.Records 0 e1 (i + 1) b hb
      rw [Nat.zero_add] at this
      subst hf
      simp only at this
      obtain ⟨rf, r1, r2⟩ := recFault_ok b hx
      have hbl := bare_len b hx
      obtain ⟨un, u1, _⟩ := under_ok (Lib.trimPrefix b.Name [42, 46]) z.Root (by omega) (by omega)
      have hb1 : m_name_bare b.Name = some (Lib.trimPrefix b.Name [42, 46]) := rfl
      obtain ⟨c, c1, c2, c3⟩ := order_ok a b
      have hj0 : (((i + 1 : Nat) : Int) == 0) = false := by simp; omega
      have hgz : getZ z.Records (wi (((i + 1 : Nat) : Int) - 1)) = some a := by
        rw [wi_id (by omega) (by omega), show ((i + 1 : Nat) : Int) - 1 = ((i : Nat) : Int) by omega, getZ_cast, ha]
      simp only [r1, bi_some, hb1, u1, hj0, cond_false, hgz, c1] at this
      cases hrf : (rf != 0) with
      | true => rw [hrf] at this; cases this
      | false =>
        rw [hrf] at this
        cases un with
        | false => cases this
        | true =>
          simp only [Bool.not_true, cond_false] at this
          cases hc0 : (c == 0) with
          | true => rw [hc0] at this; cases this
          | false =>
            rw [hc0] at this
            cases hcp : decide (c > 0) with
            | true => rw [hcp] at this; cases this
            | false =>
              rw [hcp] at this
              have k1 : ¬ c > 0 := of_decide_eq_false hcp
              have k2 : c ≠ 0 := by simpa using hc0
              refine ⟨c3 (by omega), fun en => ?_⟩
              simp only [cond_false, en, beq_self_eq_true, Bool.true_and] at this
              cases h5 : ((a.Kind == 5) || (b.Kind == 5)) with
              | true => rw [h5] at this; cases this
              | false =>
                rw [Bool.or_eq_false_iff] at h5
                exact ⟨by simpa using h5.1, by simpa using h5.2⟩

theorem equalR (l : List T_api_Record) (hl : l.length ≤ 1000000) : m_slices_Equal_api_Record_api_Record l l = some true := by
  unfold m_slices_Equal_api_Record_api_Record
  have : ((l.length : Int) != (l.length : Int)) = false := by simp
  rw [this]
  simp only [cond_false]
  rw [rangeM_all (fun _ => true) false l 0 (fun j x hx => by
    rw [Nat.zero_add, getZ_cast, hx]
    simp only [bi_some, beq_self_eq_true, Bool.and_true, Bool.not_true, cond_false, if_true])]
  simp [goI]
end Go.Gk
