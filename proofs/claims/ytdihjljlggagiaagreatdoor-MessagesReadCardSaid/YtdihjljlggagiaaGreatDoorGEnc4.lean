/-
  The plain law of MessagesWritten.
-/
import Derived.Test.YtdihjljlggagiaaGreatDoorGEnc3
set_option linter.unusedVariables false
set_option linter.unusedSimpArgs false
set_option linter.unusedSectionVars false
set_option maxRecDepth 100000
namespace Go.Gk
theorem u8u64 {n : Int} (h0 : 0 ≤ n) (h1 : n ≤ 65535) : IntKind.u8.wrap (IntKind.u64.wrap n) = IntKind.u8.wrap n := by rw [w64n h0 (by omega)]
theorem encode_ok (m : T_api_Message) (h : MsgOk m) : ∃ r e, m_name_Encode 20000000 m = some (r, e) ∧ m_laneref1_EncodeOf 20000000 m = some (r, e) := by
  obtain ⟨e, e1, e2, e3⟩ := mfault_ok m h
  unfold m_name_Encode m_laneref1_EncodeOf
  rw [e1, e2]
  simp only [bi_some]
  by_cases he : e = 0
  · subst he
    obtain ⟨g1, g2, g3, g4, g5, g6, h2, h4⟩ := e3 rfl
    rw [show ((0 : Int) != 0) = false from rfl]
    simp only [cond_false]
    unfold m_laneref1_MessageBytes
    obtain ⟨b1, c1, n1, n2, n3, n4⟩ := wnum_two (Like.refl []) ([] : List (Str × Int)) (IntKind.u64.wrap m.Id) (IntKind.u64.wrap m.Id) 2 (by decide) (by simp) (fun _ => rfl)
    rw [show ((2 : Nat) : Int) = 2 from rfl] at n1 n2
    rw [n1, n2]
    simp only [bi_some]
    have hq : ∃ q : Int, (bif m.Reply then (some (128 : Int)) else (some 0)) = some q ∧ IntKind.u8.wrap q = q := by cases m.Reply <;> exact ⟨_, rfl, rfl⟩
    obtain ⟨q, q1, q2⟩ := hq
    rw [q1]
    simp only [bi_some]
    have hb1 : b1.length = 2 := by simpa using n4
    have hc1 : c1.length = 2 := by rw [← n3.1]; exact hb1
    have O1 := one_ok c1 ([] : List (Str × Int)) q (by omega)
    have O2 := one_ok (c1 ++ [IntKind.u8.wrap q]) ([] : List (Str × Int)) (IntKind.u64.wrap m.Code) (by simp; omega)
    have O3 := one_ok (c1 ++ [IntKind.u8.wrap q] ++ [IntKind.u8.wrap (IntKind.u64.wrap m.Code)]) ([] : List (Str × Int)) (IntKind.u64.wrap (m.Asked.length : Int)) (by simp; omega)
    have O4 := one_ok (c1 ++ [IntKind.u8.wrap q] ++ [IntKind.u8.wrap (IntKind.u64.wrap m.Code)] ++ [IntKind.u8.wrap (IntKind.u64.wrap (m.Asked.length : Int))]) ([] : List (Str × Int)) (IntKind.u64.wrap (m.Got.length : Int)) (by simp; omega)
    rw [apd_some (by simp; omega)]
    simp only [rangeF, O1, O2, O3, O4, bi_some]
    have hL : Like (b1 ++ [q, IntKind.u8.wrap m.Code, IntKind.u8.wrap (m.Asked.length : Int), IntKind.u8.wrap (m.Got.length : Int)]) (c1 ++ [IntKind.u8.wrap q] ++ [IntKind.u8.wrap (IntKind.u64.wrap m.Code)] ++ [IntKind.u8.wrap (IntKind.u64.wrap (m.Asked.length : Int))] ++ [IntKind.u8.wrap (IntKind.u64.wrap (m.Got.length : Int))]) := by
      rw [q2, u8u64 g3 (by omega), u8u64 (by omega) (by omega), u8u64 (by omega) (by omega)]
      simp only [List.append_assoc, List.cons_append, List.nil_append]
      exact n3.app rfl fun _ => rfl
    -- the questions
    obtain ⟨s1, t1, r1, r2, w1, b2, c2, rfl, rfl, i1, i2, i3⟩ := rangeF_two (f := fun i13 (x15 : T_api_Question) (s14 : (List (Str × Int)) × (List Int)) => bi (m_name_encoder_name 20000000 (⟨s14.2, s14.1⟩ : T_name_encoder) x15.Name) fun y24 => bi (apd y24.b [IntKind.u8.wrap (x15.Kind)]) fun y26 => some (y24.v_where, y26))
      (g := fun i20 (x22 : T_api_Question) (s21 : (List (Str × Int)) × (List Int)) => bi (m_laneref1_pen_name 20000000 (⟨s21.2, s21.1⟩ : T_laneref1_pen) x22.Name) fun y31 => bi (m_laneref1_pen_put 20000000 y31 (IntKind.u64.wrap (x22.Kind)) 1) fun y33 => some (y33.v_at, y33.b))
      m.Asked (fun i s t => ∃ w b c, s = (w, b) ∧ t = (w, c) ∧ Like b c ∧ Spots w b.length ∧ b.length ≤ 100 + 1000 * i) (by
        rintro i x _ _ hx ⟨w, b, c, rfl, rfl, j1, j2, j3⟩
        have hil : i < m.Asked.length := (List.getElem?_eq_some_iff.1 hx).1
        have hxm := List.mem_of_getElem? hx
        obtain ⟨b2, c2, w2, k1, k2, k3, k4, k5, k6⟩ := wname_two j1 w x.Name j2 (g5 x hxm).2 (by omega)
        have hk := kind_cases (g5 x hxm).1
        have hkw : IntKind.u64.wrap x.Kind = x.Kind := w64n (by rcases hk with h | h | h | h | h <;> omega) (by rcases hk with h | h | h | h | h <;> omega)
        obtain ⟨a1, a2, a3⟩ := one_two k3 w2 x.Kind x.Kind (by omega) rfl
        simp only
        rw [k1, k2]
        simp only [bi_some]
        rw [a1, hkw, a2]
        exact ⟨_, _, rfl, rfl, w2, _, _, rfl, rfl, a3, k4.mono (by simp), by simp; omega⟩) m.Asked 0 ([], b1 ++ [q, IntKind.u8.wrap m.Code, IntKind.u8.wrap (m.Asked.length : Int), IntKind.u8.wrap (m.Got.length : Int)]) ([], c1 ++ [IntKind.u8.wrap q] ++ [IntKind.u8.wrap (IntKind.u64.wrap m.Code)] ++ [IntKind.u8.wrap (IntKind.u64.wrap (m.Asked.length : Int))] ++ [IntKind.u8.wrap (IntKind.u64.wrap (m.Got.length : Int))]) rfl ⟨[], _, _, rfl, rfl, hL, ⟨SM.nil, fun e he => by cases he⟩, by simp; omega⟩
    rw [r1, r2]
    simp only [bi_some]
    -- the records
    obtain ⟨s3, t3, r3, r4, w3, b3, c3, rfl, rfl, k1, k2, k3⟩ := rangeF_two (f := fun i28 (x30 : T_api_Record) (s29 : (List (Str × Int)) × (List Int)) => bi (m_name_encoder_record 20000000 (⟨s29.2, s29.1⟩ : T_name_encoder) x30) fun y39 => some (y39.v_where, y39.b))
      (g := fun i35 (x37 : T_api_Record) (s36 : (List (Str × Int)) × (List Int)) => refRec 20000000 s36.1 s36.2 x37)
      m.Got (fun i s t => ∃ w b c, s = (w, b) ∧ t = (w, c) ∧ Like b c ∧ Spots w b.length ∧ b.length ≤ 100 + 1000 * m.Asked.length + 2000 * i) (by
        rintro i x _ _ hx ⟨w, b, c, rfl, rfl, j1, j2, j3⟩
        have hil : i < m.Got.length := (List.getElem?_eq_some_iff.1 hx).1
        have hxm := List.mem_of_getElem? hx
        obtain ⟨b2, c2, w2, p1, p2, p3, p4, p5⟩ := wrecord_two j1 w x j2 (g6 x hxm) (by omega)
        simp only
        rw [p1, p2]
        exact ⟨_, _, rfl, rfl, w2, b2, c2, rfl, rfl, p3, p4, by omega⟩) m.Got 0 (w1, b2) (w1, c2) rfl ⟨w1, b2, c2, rfl, rfl, i1, i2, by omega⟩
    unfold refRec at r4
    simp only [bi_some] at r3 r4
    rw [r3, r4]
    simp only [bi_some]
    rw [← k1.1]
    by_cases hbig : (b3.length : Int) > 4096
    · rw [decide_eq_true hbig]
      exact ⟨_, _, rfl, rfl⟩
    · rw [decide_eq_false hbig]
      have := k1.2 (by omega)
      subst this
      exact ⟨_, _, rfl, rfl⟩
  · have : (e != 0) = true := by simpa using he
    rw [this]
    exact ⟨_, _, rfl, rfl⟩
theorem bytes_ok (m : T_api_Message) (h : MsgOk m) (hz : m_laneref1_MessageFault m = some 0) : ∃ c, m_laneref1_MessageBytes 20000000 m = some c ∧ c.length ≤ 1000000 := by
  obtain ⟨e, e1, e2, e3⟩ := mfault_ok m h
  obtain rfl : e = 0 := by rw [hz] at e2; exact (Option.some.inj e2).symm
  obtain ⟨g1, g2, g3, g4, g5, g6, h2, h4⟩ := e3 rfl
  unfold m_laneref1_MessageBytes
  obtain ⟨b1, c1, n1, n2, n3, n4⟩ := wnum_two (Like.refl []) ([] : List (Str × Int)) (IntKind.u64.wrap m.Id) (IntKind.u64.wrap m.Id) 2 (by decide) (by simp) (fun _ => rfl)
  rw [show ((2 : Nat) : Int) = 2 from rfl] at n1 n2
  rw [n2]
  simp only [bi_some]
  have hq : ∃ q : Int, (bif m.Reply then (some (128 : Int)) else (some 0)) = some q ∧ IntKind.u8.wrap q = q := by cases m.Reply <;> exact ⟨_, rfl, rfl⟩
  obtain ⟨q, q1, q2⟩ := hq
  rw [q1]
  simp only [bi_some]
  have hb1 : b1.length = 2 := by simpa using n4
  have hc1 : c1.length = 2 := by rw [← n3.1]; exact hb1
  have O1 := one_ok c1 ([] : List (Str × Int)) q (by omega)
  have O2 := one_ok (c1 ++ [IntKind.u8.wrap q]) ([] : List (Str × Int)) (IntKind.u64.wrap m.Code) (by simp; omega)
  have O3 := one_ok (c1 ++ [IntKind.u8.wrap q] ++ [IntKind.u8.wrap (IntKind.u64.wrap m.Code)]) ([] : List (Str × Int)) (IntKind.u64.wrap (m.Asked.length : Int)) (by simp; omega)
  have O4 := one_ok (c1 ++ [IntKind.u8.wrap q] ++ [IntKind.u8.wrap (IntKind.u64.wrap m.Code)] ++ [IntKind.u8.wrap (IntKind.u64.wrap (m.Asked.length : Int))]) ([] : List (Str × Int)) (IntKind.u64.wrap (m.Got.length : Int)) (by simp; omega)
  simp only [rangeF, O1, O2, O3, O4, bi_some]
  have hL : Like (b1 ++ [q, IntKind.u8.wrap m.Code, IntKind.u8.wrap (m.Asked.length : Int), IntKind.u8.wrap (m.Got.length : Int)]) (c1 ++ [IntKind.u8.wrap q] ++ [IntKind.u8.wrap (IntKind.u64.wrap m.Code)] ++ [IntKind.u8.wrap (IntKind.u64.wrap (m.Asked.length : Int))] ++ [IntKind.u8.wrap (IntKind.u64.wrap (m.Got.length : Int))]) := by
    rw [q2, u8u64 g3 (by omega), u8u64 (by omega) (by omega), u8u64 (by omega) (by omega)]
    simp only [List.append_assoc, List.cons_append, List.nil_append]
    exact n3.app rfl fun _ => rfl
  -- the questions
  obtain ⟨s1, t1, r1, r2, w1, b2, c2, rfl, rfl, i1, i2, i3⟩ := rangeF_two (f := fun i13 (x15 : T_api_Question) (s14 : (List (Str × Int)) × (List Int)) => bi (m_name_encoder_name 20000000 (⟨s14.2, s14.1⟩ : T_name_encoder) x15.Name) fun y24 => bi (apd y24.b [IntKind.u8.wrap (x15.Kind)]) fun y26 => some (y24.v_where, y26))
    (g := fun i20 (x22 : T_api_Question) (s21 : (List (Str × Int)) × (List Int)) => bi (m_laneref1_pen_name 20000000 (⟨s21.2, s21.1⟩ : T_laneref1_pen) x22.Name) fun y31 => bi (m_laneref1_pen_put 20000000 y31 (IntKind.u64.wrap (x22.Kind)) 1) fun y33 => some (y33.v_at, y33.b))
    m.Asked (fun i s t => ∃ w b c, s = (w, b) ∧ t = (w, c) ∧ Like b c ∧ Spots w b.length ∧ b.length ≤ 100 + 1000 * i) (by
      rintro i x _ _ hx ⟨w, b, c, rfl, rfl, j1, j2, j3⟩
      have hil : i < m.Asked.length := (List.getElem?_eq_some_iff.1 hx).1
      have hxm := List.mem_of_getElem? hx
      obtain ⟨b2, c2, w2, k1, k2, k3, k4, k5, k6⟩ := wname_two j1 w x.Name j2 (g5 x hxm).2 (by omega)
      have hk := kind_cases (g5 x hxm).1
      have hkw : IntKind.u64.wrap x.Kind = x.Kind := w64n (by rcases hk with h | h | h | h | h <;> omega) (by rcases hk with h | h | h | h | h <;> omega)
      obtain ⟨a1, a2, a3⟩ := one_two k3 w2 x.Kind x.Kind (by omega) rfl
      simp only
      rw [k1, k2]
      simp only [bi_some]
      rw [a1, hkw, a2]
      exact ⟨_, _, rfl, rfl, w2, _, _, rfl, rfl, a3, k4.mono (by simp), by simp; omega⟩) m.Asked 0 ([], b1 ++ [q, IntKind.u8.wrap m.Code, IntKind.u8.wrap (m.Asked.length : Int), IntKind.u8.wrap (m.Got.length : Int)]) ([], c1 ++ [IntKind.u8.wrap q] ++ [IntKind.u8.wrap (IntKind.u64.wrap m.Code)] ++ [IntKind.u8.wrap (IntKind.u64.wrap (m.Asked.length : Int))] ++ [IntKind.u8.wrap (IntKind.u64.wrap (m.Got.length : Int))]) rfl ⟨[], _, _, rfl, rfl, hL, ⟨SM.nil, fun e he => by cases he⟩, by simp; omega⟩
  rw [r2]
  simp only [bi_some]
  -- the records
  obtain ⟨s3, t3, r3, r4, w3, b3, c3, rfl, rfl, k1, k2, k3⟩ := rangeF_two (f := fun i28 (x30 : T_api_Record) (s29 : (List (Str × Int)) × (List Int)) => bi (m_name_encoder_record 20000000 (⟨s29.2, s29.1⟩ : T_name_encoder) x30) fun y39 => some (y39.v_where, y39.b))
    (g := fun i35 (x37 : T_api_Record) (s36 : (List (Str × Int)) × (List Int)) => refRec 20000000 s36.1 s36.2 x37)
    m.Got (fun i s t => ∃ w b c, s = (w, b) ∧ t = (w, c) ∧ Like b c ∧ Spots w b.length ∧ b.length ≤ 100 + 1000 * m.Asked.length + 2000 * i) (by
      rintro i x _ _ hx ⟨w, b, c, rfl, rfl, j1, j2, j3⟩
      have hil : i < m.Got.length := (List.getElem?_eq_some_iff.1 hx).1
      have hxm := List.mem_of_getElem? hx
      obtain ⟨b2, c2, w2, p1, p2, p3, p4, p5⟩ := wrecord_two j1 w x j2 (g6 x hxm) (by omega)
      simp only
      rw [p1, p2]
      exact ⟨_, _, rfl, rfl, w2, b2, c2, rfl, rfl, p3, p4, by omega⟩) m.Got 0 (w1, b2) (w1, c2) rfl ⟨w1, b2, c2, rfl, rfl, i1, i2, by omega⟩
  unfold refRec at r4
  simp only [bi_some] at r3 r4
  rw [r4]
  simp only [bi_some]
  exact ⟨_, rfl, by rw [← k1.1]; omega⟩
end Go.Gk
