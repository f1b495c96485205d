/-
  The plain law: messages, checked and written two ways.
-/
import Derived.Test.YtdihjljlggagiaaGreatDoorGEnc2
set_option linter.unusedVariables false
set_option linter.unusedSimpArgs false
set_option linter.unusedSectionVars false
set_option maxRecDepth 100000
namespace Go.Gk
/-- What a right record is known by. -/
def good (r : T_api_Record) : Prop := r.Name ≠ [] ∧ kindB r.Kind = true ∧ 0 ≤ r.Life ∧ r.Life ≤ 1000000 ∧ r.Name.length ≤ 300 ∧ r.To.length ≤ 300 ∧ r.Words.length ≤ 200
theorem domF_zero {s : Str} (h : domF s = 0) : s.length ≤ 253 := by
  unfold domF at h
  split at h
  · cases h
  · omega
theorem bif_eq {c : Bool} {α : Type} {x y z : α} (h : (bif c then x else y) = z) (hx : x ≠ z) : c = false ∧ y = z := by
  cases c with
  | true => exact absurd h hx
  | false => exact ⟨rfl, h⟩
theorem recFault_zero (r : T_api_Record) (hz : m_name_recordFault 20000000 r = some 0) : good r := by
  unfold m_name_recordFault at hz
  have hb : m_name_bare r.Name = some (Lib.trimPrefix r.Name [42, 46]) := rfl
  have hhn : m_name_hasName r.Kind = some ((r.Kind == 5) || (r.Kind == 12)) := rfl
  rw [hb] at hz
  simp only [bi_some] at hz
  rw [check_all, isKind_ok, hhn] at hz
  simp only [bi_some] at hz
  obtain ⟨c1, hz⟩ := bif_eq hz (by simp)
  obtain ⟨c2, hz⟩ := bif_eq hz (by simp)
  obtain ⟨y1, _, hz⟩ := bi_ok hz
  obtain ⟨y2, _, hz⟩ := bi_ok hz
  obtain ⟨_, hz⟩ := bif_eq hz (by simp)
  obtain ⟨y3, _, hz⟩ := bi_ok hz
  obtain ⟨_, hz⟩ := bif_eq hz (by simp)
  obtain ⟨y5, e5, hz⟩ := bi_ok hz
  obtain ⟨c5, hz⟩ := bif_eq hz (by simp)
  obtain ⟨c6, hz⟩ := bif_eq hz (by simp)
  obtain ⟨y7, e7, hz⟩ := bi_ok hz
  obtain ⟨c7, hz⟩ := bif_eq hz (by simp)
  have ho : m_kit_Outside r.Life 0 1000000 = some (decide (r.Life < 0) || decide (r.Life > 1000000)) := rfl
  rw [ho] at hz
  simp only [bi_some] at hz
  obtain ⟨c3, _⟩ := bif_eq hz (by simp)
  simp only [Bool.or_eq_false_iff, decide_eq_false_iff_not] at c1 c3
  refine ⟨fun hn => ?_, by simpa using c2, by omega, by omega, by omega, ?_, ?_⟩
  · rw [hn] at c1
    exact absurd c1.1 (by decide)
  · cases hk : ((r.Kind == 5) || (r.Kind == 12)) with
    | true =>
      rw [hk] at e5
      simp only [cond_true, check_all, bi_some] at e5
      rw [← Option.some.inj e5] at c5
      have := domF_zero (s := r.To) (by simpa using c5)
      omega
    | false =>
      rw [hk] at c6
      have : r.To = [] := by simpa using c6
      rw [this]
      decide
  · rw [Bool.or_eq_false_iff] at c7
    cases hk : (r.Kind == 16) with
    | true =>
      rw [hk] at e7
      simp only [cond_true] at e7
      obtain ⟨p, _, e8⟩ := bi_ok e7
      rw [← Option.some.inj e8, Bool.or_eq_false_iff] at c7
      have := of_decide_eq_false c7.1.2
      omega
    | false =>
      have h16 : (r.Kind != 16) = true := by show (!(r.Kind == 16)) = true; rw [hk]; rfl
      rw [h16] at c7
      have : r.Words = [] := by simpa using c7.2
      rw [this]
      decide
def goodMsg (m : T_api_Message) : Prop := 0 ≤ m.Id ∧ m.Id ≤ 65535 ∧ 0 ≤ m.Code ∧ m.Code ≤ 15 ∧ (∀ q ∈ m.Asked, kindB q.Kind = true ∧ q.Name.length ≤ 300) ∧ (∀ r ∈ m.Got, good r) ∧ m.Asked.length ≤ 10 ∧ m.Got.length ≤ 50
theorem star_ok (s : Str) (h : s ≠ []) : ∃ b, m_strings_HasPrefix s [42] = some b ∧ (bi (getZ s 0) fun c57 => bif ((c57.toNat : Int) : Int) == 42 then (some (LS.out (5 : Int) : LS Unit Int)) else (some (.go ()))) = (bif b then some (.out 5) else some (.go ())) := by
  cases s with
  | nil => exact absurd rfl h
  | cons c s =>
    refine ⟨Lib.hasPrefix (c :: s) [42], rfl, ?_⟩
    have e : getZ (c :: s) 0 = some c := rfl
    rw [e]
    simp only [bi_some]
    have h1 : Lib.hasPrefix (c :: s) [42] = ((42 : UInt8) == c) := by cases s <;> simp [Lib.hasPrefix, List.isPrefixOf]
    have h2 : ((c.toNat : Int) == 42) = ((42 : UInt8) == c) := by
      by_cases hc : c = 42
      · subst hc; rfl
      · have e1 : ((42 : UInt8) == c) = false := by simpa using Ne.symm hc
        have e2 : ((c.toNat : Int) == 42) = false := by
          simp only [beq_eq_false_iff_ne, ne_eq]
          intro hh
          exact hc (UInt8.toNat_inj.1 (by show c.toNat = 42; omega))
        rw [e1, e2]
    rw [h1, h2]
theorem mfault_ok (m : T_api_Message) (h : MsgOk m) : ∃ e, m_name_messageFault 20000000 m = some e ∧ m_laneref1_MessageFault m = some e ∧ (e = 0 → goodMsg m) := by
  obtain ⟨h3, h2, h4⟩ := h
  unfold m_name_messageFault m_laneref1_MessageFault
  obtain ⟨oi, i1, i2⟩ := outside_in m.Id 0 65535
  obtain ⟨oc, c1, c2⟩ := outside_in m.Code 0 15
  rw [i1, i2, c1, c2]
  simp only [bi_some, Bool.not_not]
  have ho : ∀ n a b c, m_kit_Outside n a b = some c → c = false → a ≤ n ∧ n ≤ b := fun n a b c hh hc => by
    have : m_kit_Outside n a b = some (decide (n < a) || decide (n > b)) := rfl
    rw [this] at hh
    subst hc
    simp only [Option.some.injEq, Bool.or_eq_false_iff, decide_eq_false_iff_not] at hh
    omega
  cases oi with
  | true => exact ⟨1, rfl, rfl, fun h0 => by cases h0⟩
  | false =>
    cases oc with
    | true => exact ⟨1, rfl, rfl, fun h0 => by cases h0⟩
    | false =>
      have hi := ho _ _ _ _ i1 rfl
      have hcd := ho _ _ _ _ c1 rfl
      simp only [cond_false, bi_some]
      by_cases ha10 : (m.Asked.length : Int) > 10
      · rw [decide_eq_true ha10]
        exact ⟨2, rfl, rfl, fun h0 => by cases h0⟩
      rw [decide_eq_false ha10]
      simp only [cond_false]
      have hk : m_laneref1_Kinds = some [1, 5, 12, 16, 28] := rfl
      have key := rangeM_two (f := fun i13 x15 s14 => bi (m_name_CheckDomain 20000000 x15.Name) fun y24 => bif (y24 : Int) != 0 then (bi (some y24) fun v => some (LS.out v)) else (bi (m_name_isKind x15.Kind) fun y30 => bif !y30 then (bi (some 4) fun v => some (.out v)) else (some (.go ()))))
        (g := fun i13 x15 s14 => bi (m_laneref1_DomainFault x15.Name) fun y24 => bif (y24 : Int) != 0 then (bi (some y24) fun v => some (LS.out v)) else (bi m_laneref1_Kinds fun y30 => bi (m_slices_Contains_int_int y30 x15.Kind) fun y32 => bif !y32 then (bi (some 4) fun v => some (.out v)) else (some (.go ()))))
        m.Asked (fun i (_ _ : Unit) => ∀ j q, j < i → m.Asked[j]? = some q → kindB q.Kind = true ∧ q.Name.length ≤ 300) (fun (r q : Int) => r = q ∧ r ≠ 0) (by
          rintro i q ⟨⟩ ⟨⟩ hq hI
          rw [check_all, fault_all, isKind_ok, hk]
          simp only [bi_some, kinds_ok]
          by_cases hd : domF q.Name = 0
          · rw [hd]
            cases hb : kindB q.Kind with
            | false => exact .inr ⟨4, 4, rfl, rfl, rfl, by decide⟩
            | true =>
              refine .inl ⟨(), (), rfl, rfl, fun j z hj hz => ?_⟩
              by_cases e : j = i
              · subst e; rw [hq] at hz; cases hz; exact ⟨hb, by have := domF_zero hd; omega⟩
              · exact hI j z (by omega) hz
          · have : (domF q.Name != 0) = true := by simpa using hd
            rw [this]
            exact .inr ⟨_, _, rfl, rfl, rfl, hd⟩) m.Asked 0 () () rfl (fun j q hj => absurd hj (Nat.not_lt_zero _))
      rcases key with ⟨s', t', e1, e2, hA⟩ | ⟨r, q, e1, e2, rfl, hr⟩
      · simp only [bi_some] at e1 e2
        rw [e1, e2]
        simp only [bi_some, goI]
        by_cases hg : (m.Got.length : Int) > 50
        · rw [decide_eq_true hg]
          exact ⟨2, rfl, rfl, fun h0 => by cases h0⟩
        · rw [decide_eq_false hg]
          simp only [cond_false]
          have key2 := rangeM_two (f := fun i38 x40 s39 => bi (m_name_recordFault 20000000 x40) fun y49 => bif (y49 : Int) != 0 then (bi (some y49) fun v => some (LS.out v)) else (bi (m_strings_HasPrefix x40.Name [42]) fun y55 => bif y55 then (bi (some 5) fun v => some (.out v)) else (some (.go ()))))
            (g := fun i40 x42 s41 => bi (m_laneref1_RecordFault x42) fun y51 => bif (y51 : Int) != 0 then (bi (some y51) fun v => some (LS.out v)) else (bi (getZ x42.Name 0) fun c57 => bif ((c57.toNat : Int) : Int) == 42 then (bi (some 5) fun v => some (.out v)) else (some (.go ()))))
            m.Got (fun i (_ _ : Unit) => ∀ j r, j < i → m.Got[j]? = some r → good r) (fun (r q : Int) => r = q ∧ r ≠ 0) (by
              rintro i q ⟨⟩ ⟨⟩ hq hI
              have hok := h3 q (List.mem_of_getElem? hq)
              obtain ⟨e, f1, f2⟩ := recFault_ok q hok
              rw [f1, f2]
              simp only [bi_some]
              by_cases he : e = 0
              · subst he
                have hgd := recFault_zero q f1
                obtain ⟨b, b1, b2⟩ := star_ok q.Name hgd.1
                rw [b1]
                rw [show ((0 : Int) != 0) = false from rfl]
                simp only [cond_false, bi_some]
                rw [b2]
                cases b with
                | true => exact .inr ⟨5, 5, rfl, rfl, rfl, by decide⟩
                | false =>
                  refine .inl ⟨(), (), rfl, rfl, fun j z hj hz => ?_⟩
                  by_cases e : j = i
                  · subst e; rw [hq] at hz; cases hz; exact hgd
                  · exact hI j z (by omega) hz
              · have : (e != 0) = true := by simpa using he
                rw [this]
                exact .inr ⟨_, _, rfl, rfl, rfl, he⟩) m.Got 0 () () rfl (fun j q hj => absurd hj (Nat.not_lt_zero _))
          rcases key2 with ⟨s2, t2, e3, e4, hG⟩ | ⟨r, q, e3, e4, rfl, hr⟩
          · simp only [bi_some] at e3 e4
            rw [e3, e4]
            refine ⟨0, rfl, rfl, fun _ => ⟨hi.1, hi.2, hcd.1, hcd.2, fun q hq => ?_, fun q hq => ?_, by omega, by omega⟩⟩
            · obtain ⟨j, hj⟩ := List.getElem?_of_mem hq
              exact hA j q (by have := (List.getElem?_eq_some_iff.1 hj).1; omega) hj
            · obtain ⟨j, hj⟩ := List.getElem?_of_mem hq
              exact hG j q (by have := (List.getElem?_eq_some_iff.1 hj).1; omega) hj
          · simp only [bi_some] at e3 e4
            rw [e3, e4]
            exact ⟨r, rfl, rfl, fun h0 => absurd h0 hr⟩
      · simp only [bi_some] at e1 e2
        rw [e1, e2]
        exact ⟨r, rfl, rfl, fun h0 => absurd h0 hr⟩
/-! ### Written -/
theorem one_two {b c : List Int} (h : Like b c) (w : List (Str × Int)) (n n' : Int) (hb : b.length ≤ 90000000) (hn : IntKind.u8.wrap n = IntKind.u8.wrap n') :
    apd b [IntKind.u8.wrap n] = some (b ++ [IntKind.u8.wrap n]) ∧ m_laneref1_pen_put 20000000 ⟨c, w⟩ n' 1 = some ⟨c ++ [IntKind.u8.wrap n'], w⟩ ∧ Like (b ++ [IntKind.u8.wrap n]) (c ++ [IntKind.u8.wrap n']) :=
  ⟨apd_some (by simp; omega), one_ok _ _ _ (by rw [← h.1]; omega), h.app rfl fun _ => by rw [hn]⟩
theorem kind_cases {k : Int} (h : kindB k = true) : k = 1 ∨ k = 5 ∨ k = 12 ∨ k = 16 ∨ k = 28 := by simpa [kindB] using h
noncomputable def refRec (k : Nat) (w : List (Str × Int)) (c : List Int) (x37 : T_api_Record) : Option ((List (Str × Int)) × (List Int)) := bi (m_laneref1_pen_name k (⟨c, w⟩ : T_laneref1_pen) x37.Name) fun y46 => bi (m_laneref1_pen_put k y46 (IntKind.u64.wrap (x37.Kind)) 1) fun y48 => bi (m_laneref1_pen_put k y48 (IntKind.u64.wrap (x37.Life)) 4) fun y50 => bif (x37.Kind : Int) == 1 then (bi (m_laneref1_pen_put k y50 x37.Addr.Lo 4) fun y53 => some (y53.v_at, y53.b)) else (bif (x37.Kind : Int) == 28 then (bi (m_laneref1_pen_put k y50 x37.Addr.Hi 8) fun y57 => bi (m_laneref1_pen_put k y57 x37.Addr.Lo 8) fun y59 => some (y59.v_at, y59.b)) else (bif (x37.Kind : Int) == 16 then (bi (m_laneref1_pen_put k y50 (IntKind.u64.wrap ((x37.Words.length : Int))) 1) fun y63 => bi (apd y63.b (bytesOf x37.Words)) fun y65 => some (y63.v_at, y65)) else (bi (m_laneref1_pen_name k y50 x37.To) fun y68 => some (y68.v_at, y68.b))))
theorem wrecord_two {b c : List Int} (h : Like b c) (w : List (Str × Int)) (r : T_api_Record) (hw : Spots w b.length) (hg : good r) (hb : b.length ≤ 5000000) :
    ∃ b' c' w', m_name_encoder_record 20000000 ⟨b, w⟩ r = some ⟨b', w'⟩ ∧ refRec 20000000 w c r = some (w', c') ∧ Like b' c' ∧ Spots w' b'.length ∧ b'.length ≤ b.length + 2000 := by
  obtain ⟨b1, c1, w1, n1, n2, n3, n4, n5, n6⟩ := wname_two h w r.Name hw hg.2.2.2.2.1 (by omega)
  obtain ⟨g1, g2, g3, g4, hnl, htl, hl⟩ := hg
  have hk := kind_cases g2
  have hkw : IntKind.u64.wrap r.Kind = r.Kind := w64n (by rcases hk with h | h | h | h | h <;> omega) (by rcases hk with h | h | h | h | h <;> omega)
  obtain ⟨a1, a2, a3⟩ := one_two n3 w1 r.Kind r.Kind (by omega) rfl
  obtain ⟨b2, c2, l1, l2, l3, l4⟩ := wnum_two a3 w1 (IntKind.u64.wrap r.Life) (IntKind.u64.wrap r.Life) 4 (by decide) (by simp; omega) (fun _ => rfl)
  rw [show ((4 : Nat) : Int) = 4 from rfl] at l1 l2
  simp only [List.length_append, List.length_cons, List.length_nil] at l4
  have hs2 : Spots w1 b2.length := n4.mono (by omega)
  unfold m_name_encoder_record refRec
  rw [n1, n2]
  simp only [bi_some]
  rw [a1, hkw, a2]
  simp only [bi_some]
  rw [l1, l2]
  simp only [bi_some]
  cases e1 : ((r.Kind : Int) == 1) with
  | true =>
    obtain ⟨b3, c3, p1, p2, p3, p4⟩ := wnum_two l3 w1 r.Addr.Lo r.Addr.Lo 4 (by decide) (by omega) (fun _ => rfl)
    rw [show ((4 : Nat) : Int) = 4 from rfl] at p1 p2
    simp only [cond_true, p1, p2, bi_some]
    exact ⟨b3, c3, w1, rfl, rfl, p3, hs2.mono (by omega), by omega⟩
  | false =>
    cases e2 : ((r.Kind : Int) == 28) with
    | true =>
      obtain ⟨b3, c3, p1, p2, p3, p4⟩ := wnum_two l3 w1 r.Addr.Hi r.Addr.Hi 8 (by decide) (by omega) (fun _ => rfl)
      obtain ⟨b4, c4, q1, q2, q3, q4⟩ := wnum_two p3 w1 r.Addr.Lo r.Addr.Lo 8 (by decide) (by omega) (fun _ => rfl)
      rw [show ((8 : Nat) : Int) = 8 from rfl] at p1 p2 q1 q2
      simp only [cond_true, cond_false, p1, p2, q1, q2, bi_some]
      exact ⟨b4, c4, w1, rfl, rfl, q3, hs2.mono (by omega), by omega⟩
    | false =>
      cases e3 : ((r.Kind : Int) == 16) with
      | true =>
        obtain ⟨p1, p2, p3⟩ := one_two l3 w1 (r.Words.length : Int) (r.Words.length : Int) (by omega) rfl
        simp only [cond_true, cond_false, bi_some]
        rw [p1, w64n (by omega) (by omega), p2]
        simp only [bi_some]
        rw [apd_some (by simp [bytes_len] <;> omega), apd_some (by simp [bytes_len, ← l3.1] <;> omega)]
        exact ⟨_, _, w1, rfl, rfl, p3.app rfl fun _ => rfl, hs2.mono (by simp <;> omega), by simp [bytes_len] <;> omega⟩
      | false =>
        obtain ⟨b3, c3, w3, p1, p2, p3, p4, p5, p6⟩ := wname_two l3 w1 r.To hs2 htl (by omega)
        simp only [cond_false, p1, p2, bi_some]
        exact ⟨b3, c3, w3, rfl, rfl, p3, p4, by omega⟩
end Go.Gk
