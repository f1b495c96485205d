/-
  The plain law: MessagesRead.
-/
import Derived.Test.YtdihjljlggagiaaGreatDoorGRow
set_option linter.unusedVariables false
set_option linter.unusedSimpArgs false
set_option maxRecDepth 100000
namespace Go.Gk
theorem index_any (b : List Int) (v : Int) : ∃ i : Int, m_slices_Index_byte_byte b v = some i ∧ -1 ≤ i ∧ i ≤ b.length := by
  unfold m_slices_Index_byte_byte
  rcases rangeM_at (f := fun (i1 : Nat) (x3 : Int) (s2 : Unit) => bif (v : Int) == x3 then (bi (some (i1 : Int)) fun v => some (LS.out v)) else (some (.go ()))) b (fun _ _ => True) (fun r => -1 ≤ r ∧ r ≤ b.length) (fun i x s hx _ => by
    have hi := (List.getElem?_eq_some_iff.1 hx).1
    cases v == x with
    | true => exact .inr ⟨_, rfl, by omega, by omega⟩
    | false => exact .inl ⟨_, rfl, trivial⟩) b 0 () rfl trivial with ⟨s', e, _⟩ | ⟨r, e, h1, h2⟩
  · exact ⟨-1, by rw [e]; rfl, by omega, by omega⟩
  · exact ⟨r, by rw [e]; rfl, h1, h2⟩
theorem rec_ok {r : T_api_Record} (h : okRec r) : RecOk r := by
  obtain ⟨_, _, h3, h4⟩ := h
  refine ⟨h4, ?_⟩
  have key : ∀ w ∈ wordsT, w.length ≤ 300 := by decide +kernel
  exact key _ h3
theorem rowD (l : List Int) (hl : l.length ≤ 9223372036854775807) : ∃ r s, Byt r ∧ m_lanemake_Stream_MessageRow 20000000 ⟨l, 0⟩ = some (r, s) := by
  obtain ⟨m, a1, ⟨m1, m2, m3, m4⟩, q1, q2, e1⟩ := messageD l 0 hl (by decide) (by decide)
  have hm : MsgOk m := ⟨fun r hr => rec_ok (m3 r hr), by omega, by omega⟩
  obtain ⟨e, _, e2, _⟩ := mfault_ok m hm
  unfold m_lanemake_Stream_MessageRow
  rw [e1, bi_some]
  simp only
  rw [e2, bi_some]
  have h5 : ∃ q5, (bif (e : Int) == 0 then (bi (m_laneref1_MessageBytes 20000000 m) fun y8 => some y8) else (some [1, 2, 128, 0, 1, 1, 1, 97, 1, 120, 0, 1, 1, 98, 192, 6, 5, 0, 0, 0, 3, 192, 6])) = some q5 ∧ Byt q5 ∧ q5.length ≤ 1000000 := by
    by_cases he : e = 0
    · subst he
      obtain ⟨c, c1, c2⟩ := bytes_ok m hm e2
      exact ⟨c, by rw [c1]; rfl, byt_message c1, c2⟩
    · rw [show (e == 0) = false from beq_eq_false_iff_ne.2 he]
      exact ⟨_, rfl, by unfold Byt; decide, by decide⟩
  obtain ⟨q5, e5, b5, l5⟩ := h5
  rw [e5, bi_some]
  obtain ⟨f1, e6⟩ := flip_ok l a1 2 hl (by omega) (by omega) (by decide) (by decide)
  rw [e6, bi_some]
  simp only
  have h7 : ∃ r a2, (bif f1 then (bi (m_lanemake_Stream_Bytes (⟨l, a1 + 1⟩ : T_lanemake_Stream) q5) fun y16 => some (y16.2, y16.1)) else (some ((⟨l, a1 + 1⟩ : T_lanemake_Stream), q5))) = some (⟨l, a2⟩, r) ∧ Byt r ∧ r.length ≤ 3000000 ∧ a1 ≤ a2 ∧ a2 ≤ a1 + 200 := by
    cases f1 with
    | true =>
      obtain ⟨r, a2, g1, g2, g3, g4, g5⟩ := bytesD l (a1 + 1) q5 hl (by omega) (by omega) b5 l5
      exact ⟨r, a2, by rw [g5]; rfl, g1, g2, by omega, by omega⟩
    | false => exact ⟨q5, a1 + 1, rfl, b5, by omega, by omega, by omega⟩
  obtain ⟨r, a2, e7, b7, l7, g1, g2⟩ := h7
  rw [e7, bi_some]
  simp only
  obtain ⟨i, e8, i0, i1⟩ := index_any r 192
  rw [e8, bi_some, show wi (i + 1) = i + 1 from wi_id (by omega) (by omega)]
  have h9 : ∃ f a3, (bif ((decide ((i : Int) ≥ 0)) && (decide ((i + 1 : Int) < (r.length : Int)))) then (bi (m_lanemake_Stream_Flip (⟨l, a2⟩ : T_lanemake_Stream) 6) fun y24 => some (y24.2, y24.1)) else (some ((⟨l, a2⟩ : T_lanemake_Stream), false))) = some (⟨l, a3⟩, f) ∧ a2 ≤ a3 ∧ a3 ≤ a2 + 1 ∧ (f = true → 0 ≤ i ∧ i + 1 < r.length) := by
    cases hc : ((decide ((i : Int) ≥ 0)) && (decide ((i + 1 : Int) < (r.length : Int)))) with
    | true =>
      obtain ⟨f, ef⟩ := flip_ok l a2 6 hl (by omega) (by omega) (by decide) (by decide)
      rw [Bool.and_eq_true, decide_eq_true_eq, decide_eq_true_eq] at hc
      exact ⟨f, a2 + 1, by rw [ef]; rfl, by omega, by omega, fun _ => by omega⟩
    | false => exact ⟨false, a2, rfl, by omega, by omega, fun h => by cases h⟩
  obtain ⟨f, a3, e9, g3, g4, hf⟩ := h9
  rw [e9, bi_some]
  simp only
  cases f with
  | false => exact ⟨r, _, b7, rfl⟩
  | true =>
    obtain ⟨k0, k1⟩ := hf rfl
    obtain ⟨v, _, ev⟩ := pick_ok l a3 [0, 5, 6, 7, 8, i, wi (i - 1), wi (i + 2)] hl (by omega) (by omega) (by simp) (by simp)
    obtain ⟨x, _, hx⟩ := getZ_in r (r := i + 1) (by omega) (by omega)
    have hcl : m_slices_Clone_byte_byte r = some r := by
      unfold m_slices_Clone_byte_byte
      rw [apd_some (by simp; omega)]
      rfl
    simp only [cond_true]
    rw [hcl, bi_some, ev, bi_some, hx]
    exact ⟨_, _, byt_set b7 _ (Int.emod_nonneg _ (by decide)) (Int.emod_lt_of_pos _ (by decide)), rfl⟩
theorem equal_self {α : Type} (l : List α) (eq : α → α → Bool) (heq : ∀ x, eq x x = true) : (bi (rangeM (fun (i3 : Nat) (x5 : α) (s4 : Unit) => bi (getZ l (i3 : Int)) fun x14 => bif !(eq x5 x14) then (bi (some false) fun v => some (LS.out v)) else (some (.go ()))) 0 l ()) fun q => goI q fun a8 => some true) = some true := by
  rcases rangeM_at (f := fun (i3 : Nat) (x5 : α) (s4 : Unit) => bi (getZ l (i3 : Int)) fun x14 => bif !(eq x5 x14) then (bi (some false) fun v => some (LS.out v)) else (some (.go ()))) l (fun _ _ => True) (fun _ : Bool => False) (fun i x s hx _ => .inl ⟨(), by rw [getZ_nn hx, bi_some, heq]; rfl, trivial⟩) l 0 () rfl trivial with ⟨s', e, _⟩ | ⟨r, e, ⟨⟩⟩
  rw [e]
  rfl
theorem same_self (m : T_api_Message) : m_laneref1_SameMessage m m = some true := by
  unfold m_laneref1_SameMessage
  have h1 : m_slices_Equal_api_Question_api_Question m.Asked m.Asked = some true := by
    unfold m_slices_Equal_api_Question_api_Question
    rw [show ((m.Asked.length : Int) != (m.Asked.length : Int)) = false by simp, cond_false]
    exact equal_self m.Asked (fun x5 x14 => ((x5.Name : Str) == x14.Name) && (((x5.Kind : Int) == x14.Kind) && true)) fun x => by simp
  have h2 : m_slices_Equal_api_Record_api_Record m.Got m.Got = some true := by
    unfold m_slices_Equal_api_Record_api_Record
    rw [show ((m.Got.length : Int) != (m.Got.length : Int)) = false by simp, cond_false]
    exact equal_self m.Got (fun x5 x14 => ((x5.Name : Str) == x14.Name) && (((x5.Kind : Int) == x14.Kind) && ((((x5.Addr.Six : Bool) == x14.Addr.Six) && (((x5.Addr.Hi : Int) == x14.Addr.Hi) && (((x5.Addr.Lo : Int) == x14.Addr.Lo) && true))) && (((x5.To : Str) == x14.To) && (((x5.Words : Str) == x14.Words) && (((x5.Life : Int) == x14.Life) && true)))))) fun x => by simp
  rw [h1, h2]
  simp
theorem named_okG : m_lanelaw1_named 20000000 = some true := by rfl
theorem MessagesRead_true (l : List Int) (hl : l.length ≤ 9223372036854775807) : m_lanelaw1_MessagesRead 20000000 l = some true := by
  obtain ⟨r, s, hB, e1⟩ := rowD l hl
  obtain ⟨m, e, e2, e3⟩ := decode_two r hB encode_ok
  unfold m_lanelaw1_MessagesRead
  rw [e1, bi_some]
  simp only
  rw [e2, bi_some, e3, bi_some]
  simp only [beq_self_eq_true, cond_true, same_self, bi_some, named_okG]
end Go.Gk
