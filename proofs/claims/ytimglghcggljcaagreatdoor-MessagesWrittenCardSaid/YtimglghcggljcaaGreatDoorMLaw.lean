/-
  The plain law of MessagesWritten.
-/
import Derived.Test.YtimglghcggljcaaGreatDoorMMsg
set_option linter.unusedVariables false
set_option linter.unusedSimpArgs false
set_option linter.unusedSectionVars false
set_option maxRecDepth 100000
namespace Go.Gk
theorem u8u64 {n : Int} (h0 : 0 ≤ n) (h1 : n ≤ 65535) : IntKind.u8.wrap (IntKind.u64.wrap n) = IntKind.u8.wrap n := by rw [w64n h0 (by omega)]
theorem words_ok (r : T_api_Record) (h : okRec r) : r.Words.length ≤ 200 := by
  obtain ⟨b, _, _, h3, _⟩ := plain_tab r.Words h.2.2.1
  exact h3
theorem encode_ok (m : T_api_Message) (h : okMsg m) : ∃ r e, m_name_Encode 400 m = some (r, e) ∧ m_laneref1_EncodeOf 400 m = some (r, e) := by
  obtain ⟨e, e1, e2, e3⟩ := mfault_ok m h
  unfold m_name_Encode m_laneref1_EncodeOf
  rw [e1, e2]
  simp only [bi_some]
  by_cases he : e = 0
  · subst he
    obtain ⟨g1, g2, g3, g4, g5, g6⟩ := e3 rfl
    obtain ⟨h1, h2, h3, h4⟩ := h
    rw [show ((0 : Int) != 0) = false from rfl]
    simp only [cond_false]
    unfold m_laneref1_MessageBytes
    obtain ⟨b1, c1, n1, n2, n3, n4⟩ := num_two (Like.refl []) ([] : List (Str × Int)) (IntKind.u64.wrap m.Id) (IntKind.u64.wrap m.Id) 2 (by decide) (by simp) (fun _ => rfl)
    rw [show ((2 : Nat) : Int) = 2 from rfl] at n1 n2
    rw [n1, n2]
    simp only [bi_some]
    have hq : ∃ q : Int, (bif m.Reply then (some (128 : Int)) else (some 0)) = some q ∧ IntKind.u8.wrap q = q := by cases m.Reply <;> exact ⟨_, rfl, rfl⟩
    obtain ⟨q, q1, q2⟩ := hq
    rw [q1]
    simp only [bi_some]
    have hb1 : b1.length = 2 := by simpa using n4
    have hc1 : c1.length = 2 := by rw [← n3.1]; exact hb1
    have O1 := one_ok c1 ([] : List (Str × Int)) q (by omega)
    have O2 := one_ok (c1 ++ [IntKind.u8.wrap q]) ([] : List (Str × Int)) (IntKind.u64.wrap m.Code) (by simp; omega)
    have O3 := one_ok (c1 ++ [IntKind.u8.wrap q] ++ [IntKind.u8.wrap (IntKind.u64.wrap m.Code)]) ([] : List (Str × Int)) (IntKind.u64.wrap (m.Asked.length : Int)) (by simp; omega)
    have O4 := one_ok (c1 ++ [IntKind.u8.wrap q] ++ [IntKind.u8.wrap (IntKind.u64.wrap m.Code)] ++ [IntKind.u8.wrap (IntKind.u64.wrap (m.Asked.length : Int))]) ([] : List (Str × Int)) (IntKind.u64.wrap (m.Got.length : Int)) (by simp; omega)
    rw [apd_some (by simp; omega)]
    simp only [rangeF, O1, O2, O3, O4, bi_some]
    have hL : Like (b1 ++ [q, IntKind.u8.wrap m.Code, IntKind.u8.wrap (m.Asked.length : Int), IntKind.u8.wrap (m.Got.length : Int)]) (c1 ++ [IntKind.u8.wrap q] ++ [IntKind.u8.wrap (IntKind.u64.wrap m.Code)] ++ [IntKind.u8.wrap (IntKind.u64.wrap (m.Asked.length : Int))] ++ [IntKind.u8.wrap (IntKind.u64.wrap (m.Got.length : Int))]) := by
      rw [q2, u8u64 g3 (by omega), u8u64 (by omega) (by omega), u8u64 (by omega) (by omega)]
      simp only [List.append_assoc, List.cons_append, List.nil_append]
      exact n3.app rfl fun _ => rfl
    -- the questions
    obtain ⟨s1, t1, r1, r2, w1, b2, c2, rfl, rfl, i1, i2, i3⟩ := rangeF_two (f := fun i13 (x15 : T_api_Question) (s14 : (List (Str × Int)) × (List Int)) => bi (m_name_encoder_name 400 (⟨s14.2, s14.1⟩ : T_name_encoder) x15.Name) fun y24 => bi (apd y24.b [IntKind.u8.wrap (x15.Kind)]) fun y26 => some (y24.v_where, y26))
      (g := fun i20 (x22 : T_api_Question) (s21 : (List (Str × Int)) × (List Int)) => bi (m_laneref1_pen_name 400 (⟨s21.2, s21.1⟩ : T_laneref1_pen) x22.Name) fun y31 => bi (m_laneref1_pen_put 400 y31 (IntKind.u64.wrap (x22.Kind)) 1) fun y33 => some (y33.v_at, y33.b))
      m.Asked (fun i s t => ∃ w b c, s = (w, b) ∧ t = (w, c) ∧ Like b c ∧ Spots w b.length ∧ b.length ≤ 100 + 1000 * i) (by
        rintro i x _ _ hx ⟨w, b, c, rfl, rfl, j1, j2, j3⟩
        have hil : i < m.Asked.length := (List.getElem?_eq_some_iff.1 hx).1
        have hxm := List.mem_of_getElem? hx
        obtain ⟨b2, c2, w2, k1, k2, k3, k4, k5, k6⟩ := name_two j1 w x.Name j2 (h1 x hxm) (by omega)
        have hk := kind_cases (g5 x hxm)
        have hkw : IntKind.u64.wrap x.Kind = x.Kind := w64n (by rcases hk with h | h | h | h | h <;> omega) (by rcases hk with h | h | h | h | h <;> omega)
        obtain ⟨a1, a2, a3⟩ := one_two k3 w2 x.Kind x.Kind (by omega) rfl
        simp only
        rw [k1, k2]
        simp only [bi_some]
        rw [a1, hkw, a2]
        exact ⟨_, _, rfl, rfl, w2, _, _, rfl, rfl, a3, k4.mono (by simp), by simp; omega⟩) m.Asked 0 ([], b1 ++ [q, IntKind.u8.wrap m.Code, IntKind.u8.wrap (m.Asked.length : Int), IntKind.u8.wrap (m.Got.length : Int)]) ([], c1 ++ [IntKind.u8.wrap q] ++ [IntKind.u8.wrap (IntKind.u64.wrap m.Code)] ++ [IntKind.u8.wrap (IntKind.u64.wrap (m.Asked.length : Int))] ++ [IntKind.u8.wrap (IntKind.u64.wrap (m.Got.length : Int))]) rfl ⟨[], _, _, rfl, rfl, hL, ⟨SM.nil, fun e he => by cases he⟩, by simp; omega⟩
    rw [r1, r2]
    simp only [bi_some]
    -- the records
    obtain ⟨s3, t3, r3, r4, w3, b3, c3, rfl, rfl, k1, k2, k3⟩ := rangeF_two (f := fun i28 (x30 : T_api_Record) (s29 : (List (Str × Int)) × (List Int)) => bi (m_name_encoder_record 400 (⟨s29.2, s29.1⟩ : T_name_encoder) x30) fun y39 => some (y39.v_where, y39.b))
      (g := fun i35 (x37 : T_api_Record) (s36 : (List (Str × Int)) × (List Int)) => refRec 400 s36.1 s36.2 x37)
      m.Got (fun i s t => ∃ w b c, s = (w, b) ∧ t = (w, c) ∧ Like b c ∧ Spots w b.length ∧ b.length ≤ 100 + 1000 * m.Asked.length + 2000 * i) (by
        rintro i x _ _ hx ⟨w, b, c, rfl, rfl, j1, j2, j3⟩
        have hil : i < m.Got.length := (List.getElem?_eq_some_iff.1 hx).1
        have hxm := List.mem_of_getElem? hx
        obtain ⟨b2, c2, w2, p1, p2, p3, p4, p5⟩ := record_two j1 w x j2 (h3 x hxm) (g6 x hxm) (words_ok x (h3 x hxm)) (by omega)
        simp only
        rw [p1, p2]
        exact ⟨_, _, rfl, rfl, w2, b2, c2, rfl, rfl, p3, p4, by omega⟩) m.Got 0 (w1, b2) (w1, c2) rfl ⟨w1, b2, c2, rfl, rfl, i1, i2, by omega⟩
    unfold refRec at r4
    simp only [bi_some] at r3 r4
    rw [r3, r4]
    simp only [bi_some]
    rw [← k1.1]
    by_cases hbig : (b3.length : Int) > 4096
    · rw [decide_eq_true hbig]
      exact ⟨_, _, rfl, rfl⟩
    · rw [decide_eq_false hbig]
      have := k1.2 (by omega)
      subst this
      exact ⟨_, _, rfl, rfl⟩
  · have : (e != 0) = true := by simpa using he
    rw [this]
    exact ⟨_, _, rfl, rfl⟩
/-! ### The draws -/
theorem recsD (l : List Int) (a many : Int) (hl : l.length ≤ 9223372036854775807) (h0 : 0 ≤ a) (h1 : a < 4611686018427300000) (h2 : 0 ≤ many) (h3 : many ≤ 5) : Dr l a 400 (m_lanemake_Stream_Records ⟨l, a⟩ many) fun x => (∀ r ∈ x, okRec r) ∧ x.length ≤ 5 := by
  unfold m_lanemake_Stream_Records Dr
  rw [decide_eq_true (show many ≤ 9223372036854775807 by omega)]
  simp only [gd_true]
  obtain ⟨r, hr, a1, b1, b2, b3, b4, b5⟩ := rangeG_at (n := many) (s := ((⟨l, a⟩ : T_lanemake_Stream), ([] : List T_api_Record))) (f := fun i1 s2 => bi (m_lanemake_Stream_Some s2.1 [[97, 46, 110, 101, 116, 46, 120], [98, 46, 110, 101, 116, 46, 120], [99, 46, 110, 101, 116, 46, 120], [120, 46, 121]]) fun y13 => bi (m_lanemake_Stream_record y13.2 y13.1) fun y15 => bi (apd s2.2 [y15.1]) fun y17 => some (y15.2, y17))
    (fun i s => ∃ a', s.1 = ⟨l, a'⟩ ∧ a ≤ a' ∧ a' ≤ a + 31 * i ∧ (∀ x ∈ s.2, okRec x) ∧ s.2.length ≤ i) ⟨a, rfl, by omega, by omega, (fun x hx => by cases hx), by simp⟩ (by
      rintro i ⟨s, out⟩ hi ⟨a', e1, e2, e3, e4, e5⟩
      simp only at e1 e2 e3 e4 e5 ⊢
      subst e1
      obtain ⟨x, hx, p1⟩ := some_ok l a' [[97, 46, 110, 101, 116, 46, 120], [98, 46, 110, 101, 116, 46, 120], [99, 46, 110, 101, 116, 46, 120], [120, 46, 121]] hl (by omega) (by omega) (by simp) (by simp)
      rw [p1]
      simp only [bi_some]
      have hxl : x.length ≤ 300 := by
        simp only [List.mem_cons, List.not_mem_nil, or_false] at hx
        rcases hx with rfl | rfl | rfl | rfl <;> decide
      obtain ⟨y, a2, q1, q2, q3, q4⟩ := recD l (a' + 1) x hl (by omega) (by omega) hxl
      rw [q4]
      simp only [bi_some]
      rw [apd_some (by simp; omega)]
      refine ⟨_, rfl, a2, rfl, by omega, by omega, fun w hw => ?_, by simp; omega⟩
      rcases List.mem_append.1 hw with hw | hw
      · exact e4 w hw
      · simp only [List.mem_singleton] at hw
        subst hw
        exact q1)
  rw [hr]
  obtain ⟨s, out⟩ := r
  simp only at b1 b2 b3 b4 b5 ⊢
  subst b1
  have hmt : many.toNat ≤ 5 := by omega
  refine ⟨_, _, ⟨b4, ?_⟩, ?_, ?_, rfl⟩ <;> omega
theorem messageD (l : List Int) (a : Int) (hl : l.length ≤ 9223372036854775807) (h0 : 0 ≤ a) (h1 : a < 4611686018427200000) : Dr l a 2000 (m_lanemake_Stream_Message ⟨l, a⟩) fun m => (∀ q ∈ m.Asked, q.Name.length ≤ 300) ∧ m.Asked.length ≤ 2 ∧ (∀ r ∈ m.Got, okRec r) ∧ m.Got.length ≤ 6 := by
  unfold m_lanemake_Stream_Message Dr
  obtain ⟨i1, _, p1⟩ := pick_ok l a [0, 1, 258, 65535] hl (by omega) (by omega) (by simp) (by simp)
  obtain ⟨f1, p2⟩ := flip_ok l (a + 1) 2 hl (by omega) (by omega) (by decide) (by decide)
  obtain ⟨i2, _, p3⟩ := pick_ok l (a + 1 + 1) [0, 0, 3, 15] hl (by omega) (by omega) (by simp) (by simp)
  obtain ⟨n, hn, p4⟩ := pick_ok l (a + 1 + 1 + 1) [0, 1, 1, 2] hl (by omega) (by omega) (by simp) (by simp)
  have hn2 : 0 ≤ n ∧ n ≤ 2 := by
    simp only [List.mem_cons, List.not_mem_nil, or_false] at hn
    rcases hn with h | h | h | h <;> omega
  rw [p1]
  simp only [bi_some, p2, p3, p4]
  rw [decide_eq_true (show n ≤ 9223372036854775807 by omega)]
  simp only [gd_true]
  obtain ⟨r, hr, a1, b1, b2, b3, b4, b5⟩ := rangeG_at (n := n) (s := ((⟨l, a + 1 + 1 + 1 + 1⟩ : T_lanemake_Stream), ([] : List T_api_Question))) (f := fun i9 s10 => bi (m_lanemake_Stream_Some s10.1 [[97, 46, 110, 101, 116, 46, 120], [110, 101, 116, 46, 120], [100, 101, 101, 112, 46, 97, 46, 110, 101, 116, 46, 120], [111, 116, 104, 101, 114], [120, 46, 97, 46, 110, 101, 116]]) fun y21 => bi (m_lanemake_Stream_Pick y21.2 [1, 5, 28, 12, 16]) fun y23 => bi (apd s10.2 [(⟨y21.1, y23.1⟩ : T_api_Question)]) fun y25 => some (y23.2, y25))
    (fun i s => ∃ a', s.1 = ⟨l, a'⟩ ∧ a + 1 + 1 + 1 + 1 ≤ a' ∧ a' ≤ a + 1 + 1 + 1 + 1 + 2 * i ∧ (∀ x ∈ s.2, x.Name.length ≤ 300) ∧ s.2.length ≤ i) ⟨_, rfl, by omega, by omega, (fun x hx => by cases hx), by simp⟩ (by
      rintro i ⟨s, out⟩ hi ⟨a', e1, e2, e3, e4, e5⟩
      simp only at e1 e2 e3 e4 e5 ⊢
      subst e1
      obtain ⟨x, hx, q1⟩ := some_ok l a' [[97, 46, 110, 101, 116, 46, 120], [110, 101, 116, 46, 120], [100, 101, 101, 112, 46, 97, 46, 110, 101, 116, 46, 120], [111, 116, 104, 101, 114], [120, 46, 97, 46, 110, 101, 116]] hl (by omega) (by omega) (by simp) (by simp)
      obtain ⟨y, _, q2⟩ := pick_ok l (a' + 1) [1, 5, 28, 12, 16] hl (by omega) (by omega) (by simp) (by simp)
      rw [q1]
      simp only [bi_some, q2]
      rw [apd_some (by simp; omega)]
      refine ⟨_, rfl, a' + 1 + 1, rfl, by omega, by omega, fun w hw => ?_, by simp; omega⟩
      rcases List.mem_append.1 hw with hw | hw
      · exact e4 w hw
      · simp only [List.mem_singleton] at hw
        subst hw
        simp only [List.mem_cons, List.not_mem_nil, or_false] at hx
        rcases hx with rfl | rfl | rfl | rfl | rfl <;> simp)
  rw [hr]
  obtain ⟨s, out⟩ := r
  simp only at b1 b2 b3 b4 b5 ⊢
  subst b1
  have hnt : n.toNat ≤ 2 := by omega
  simp only [bi_some]
  obtain ⟨g, g0, g1, p5⟩ := range_ok l a1 0 3 hl (by omega) (by omega) (by omega) (by omega) (by omega)
  rw [p5]
  simp only [bi_some]
  obtain ⟨R, a2, ⟨R1, R2⟩, c1, c2, p6⟩ := recsD l (a1 + 1) g hl (by omega) (by omega) g0 (by omega)
  rw [p6]
  simp only [bi_some]
  obtain ⟨f2, p7⟩ := flip_ok l a2 20 hl (by omega) (by omega) (by decide) (by decide)
  rw [p7]
  simp only [bi_some]
  have step : ∃ x y a3, (bif f2 then (bi (m_lanemake_Stream_Odd (⟨l, a2 + 1⟩ : T_lanemake_Stream) 0 65535) fun y36 => bi (m_lanemake_Stream_Odd y36.2 0 15) fun y38 => some (y38.2, y36.1, y38.1)) else (some ((⟨l, a2 + 1⟩ : T_lanemake_Stream), i1, i2))) = some ((⟨l, a3⟩ : T_lanemake_Stream), x, y) ∧ a2 + 1 ≤ a3 ∧ a3 ≤ a2 + 20 := by
    cases f2 with
    | false => exact ⟨i1, i2, a2 + 1, rfl, by omega, by omega⟩
    | true =>
      obtain ⟨x, a3, _, d1, d2, d3⟩ := oddD l (a2 + 1) 0 65535 hl (by omega) (by omega) (by omega) (by omega) (by omega)
      obtain ⟨y, a4, _, d4, d5, d6⟩ := oddD l a3 0 15 hl (by omega) (by omega) (by omega) (by omega) (by omega)
      exact ⟨x, y, a4, by simp only [cond_true, d3, d6, bi_some], by omega, by omega⟩
  obtain ⟨x, y, a3, s1, s2, s3⟩ := step
  rw [s1]
  simp only [bi_some]
  obtain ⟨f3, p8⟩ := flip_ok l a3 20 hl (by omega) (by omega) (by decide) (by decide)
  rw [p8]
  simp only [bi_some]
  cases f3 with
  | false =>
    simp only [cond_false, bi_some]
    refine ⟨_, _, ⟨b4, ?_, R1, ?_⟩, ?_, ?_, rfl⟩
    · simp only; omega
    · simp only; omega
    · omega
    · omega
  | true =>
    obtain ⟨nm, hnm, p9⟩ := some_ok l (a3 + 1) [[42, 46, 110, 101, 116, 46, 120], [], [65]] hl (by omega) (by omega) (by simp) (by simp)
    have hnl : nm.length ≤ 300 := by
      simp only [List.mem_cons, List.not_mem_nil, or_false] at hnm
      rcases hnm with rfl | rfl | rfl <;> decide
    obtain ⟨z, a4, q1, q2, q3, q4⟩ := recD l (a3 + 1 + 1) nm hl (by omega) (by omega) hnl
    simp only [cond_true, p9, q4, bi_some]
    rw [apd_some (by simp; omega)]
    simp only [bi_some]
    refine ⟨_, _, ⟨b4, ?_, fun w hw => ?_, ?_⟩, ?_, ?_, rfl⟩
    · simp only; omega
    · rcases List.mem_append.1 hw with hw | hw
      · exact R1 w hw
      · simp only [List.mem_singleton] at hw
        subst hw
        exact q1
    · simp; omega
    · omega
    · omega
abbrev manyW : Str := [109, 97, 110, 121, 32, 119, 111, 114, 100, 115, 32, 111, 102, 32, 115, 111, 109, 101, 32, 108, 101, 110, 103, 116, 104, 32, 116, 104, 97, 116, 32, 110, 101, 101, 100, 32, 114, 111, 111, 109, 44, 32, 97, 110, 100, 32, 109, 111, 114, 101, 32, 111, 102, 32, 116, 104, 101, 109]
theorem manyW_in : manyW ∈ wordsT := by decide
theorem MessagesWritten_true (l : List Int) (hl : l.length ≤ 9223372036854775807) : m_lanelaw1_MessagesWritten 400 l = some true := by
  unfold m_lanelaw1_MessagesWritten
  obtain ⟨m, a1, ⟨m1, m2, m3, m4⟩, c1, c2, e1⟩ := messageD l 0 hl (by omega) (by omega)
  rw [e1]
  simp only [bi_some]
  obtain ⟨f, e2⟩ := flip_ok l a1 12 hl (by omega) (by omega) (by decide) (by decide)
  rw [e2]
  simp only [bi_some]
  have step : ∃ S G, (bif f then (bi (m_lanemake_Stream_Pick (⟨l, a1 + 1⟩ : T_lanemake_Stream) [40, 49, 50]) fun y8 => bi (gd (decide (y8.1 ≤ 9223372036854775807)) (rangeG (σ := T_lanemake_Stream × (List T_api_Record)) (fun i10 s11 => bi (m_lanemake_Stream_Domain s11.1) fun y22 => bi (apd s11.2 [(⟨y22.1, 16, (⟨false, 0, 0⟩ : T_api_Addr), [], manyW, 1⟩ : T_api_Record)]) fun y24 => some (y22.2, y24)) y8.1 (y8.2, m.Got))) fun q13 => some (q13.1, q13.2)) else (some ((⟨l, a1 + 1⟩ : T_lanemake_Stream), m.Got))) = some (S, G) ∧ (∀ r ∈ G, okRec r) ∧ G.length ≤ 60 := by
    cases f with
    | false => exact ⟨_, _, rfl, m3, by omega⟩
    | true =>
      obtain ⟨n, hn, e3⟩ := pick_ok l (a1 + 1) [40, 49, 50] hl (by omega) (by omega) (by simp) (by simp)
      have hn2 : 0 ≤ n ∧ n ≤ 50 := by
        simp only [List.mem_cons, List.not_mem_nil, or_false] at hn
        rcases hn with h | h | h <;> omega
      simp only [cond_true, e3, bi_some]
      rw [decide_eq_true (show n ≤ 9223372036854775807 by omega)]
      simp only [gd_true]
      obtain ⟨r, hr, a2, b1, b2, b3, b4, b5⟩ := rangeG_at (n := n) (s := ((⟨l, a1 + 1 + 1⟩ : T_lanemake_Stream), m.Got)) (f := fun i10 s11 => bi (m_lanemake_Stream_Domain s11.1) fun y22 => bi (apd s11.2 [(⟨y22.1, 16, (⟨false, 0, 0⟩ : T_api_Addr), [], manyW, 1⟩ : T_api_Record)]) fun y24 => some (y22.2, y24))
        (fun i s => ∃ a', s.1 = ⟨l, a'⟩ ∧ 0 ≤ a' ∧ a' ≤ a1 + 1 + 1 + 10 * i ∧ (∀ x ∈ s.2, okRec x) ∧ s.2.length ≤ 6 + i) ⟨_, rfl, by omega, by omega, m3, by simpa using m4⟩ (by
          rintro i ⟨s, out⟩ hi ⟨a', d1, d2, d3, d4, d5⟩
          simp only at d1 d2 d3 d4 d5 ⊢
          subst d1
          obtain ⟨x, x1, x4⟩ := domain_ok l a' hl (by omega) (by omega)
          rw [x4]
          simp only [bi_some]
          rw [apd_some (by simp; omega)]
          refine ⟨_, rfl, a' + 2, rfl, by omega, by omega, fun w hw => ?_, by simp; omega⟩
          rcases List.mem_append.1 hw with hw | hw
          · exact d4 w hw
          · simp only [List.mem_singleton] at hw
            subst hw
            exact ⟨x1, by simp, manyW_in, by simp⟩)
      rw [hr]
      obtain ⟨s, out⟩ := r
      simp only at b1 b2 b3 b4 b5 ⊢
      have hnt : n.toNat ≤ 50 := by omega
      exact ⟨s, out, rfl, b4, by omega⟩
  obtain ⟨S, G, s1, s2, s3⟩ := step
  rw [s1]
  simp only [bi_some]
  obtain ⟨r, e, x1, x2⟩ := encode_ok ⟨m.Id, m.Reply, m.Code, m.Asked, G⟩ ⟨m1, by simp only; omega, s2, s3⟩
  rw [x1, x2]
  simp only [bi_some]
  rw [show (e == e) = true by simp, bytes_equal, named_ok]
  rfl
end Go.Gk
