/-
  The functions compute their models.
-/
import Derived.Test.YtnjnmkpgedkffaaDoorXPM
import Derived.Test.YtnjnmkpgedkffaaDoorGt
import Derived.Test.YtnjnmkpgedkffaaDoorStrR
set_option linter.unusedVariables false
set_option linter.unusedSimpArgs false
set_option maxRecDepth 100000
namespace Go.Proofs.YtnjnmkpgedkffaaDoor
open Go.Gk
abbrev e_lanemake_Stream (x : T_lanemake_Stream) : List D := [Sl (eN .i64) x.L, .v (.int .i64 x.v_at)]
abbrev e_api_Sample (x : T_api_Sample) : List D := [.v (.int .i64 x.At), .v (.string ⟨x.Path.toArray⟩), .v (.int .i64 x.Millis)]
abbrev e_api_Turn (x : T_api_Turn) : List D := [.v (.string ⟨x.Who.toArray⟩), .v (.int .i64 x.From), .v (.int .i64 x.To)]
abbrev e_api_Link (x : T_api_Link) : List D := [.v (.string ⟨x.A.toArray⟩), .v (.string ⟨x.v_B.toArray⟩), .v (.int .i64 x.Millis)]
abbrev e_route_step (x : T_route_step) : List D := [.v (.string ⟨x.to.toArray⟩), .v (.int .i64 x.millis)]
abbrev e_route_far (x : T_route_far) : List D := [.v (.int .i64 x.millis), .v (.int .i64 x.links)]
theorem c_lanemake_Below {x : Int} {n : Int} {r : Int} (h : m_lanemake_Below x n = some r) : Pure Tryd.prog 68 [I x, I n] (I r) := by
  refine Pure.enter (Fr.of 0 _) Tryd.func68 rfl (Fr.of_ok _) rfl rfl ?_
  refine go_in ?_
  unfold m_lanemake_Below at h
  refine go hΓ 12 rfl ?_
  refine j_cond rfl (fun hb => ?_) (fun hb => ?_)
  · have h1 := cT h hb
    refine go hΓ 7 rfl ?_
    obtain rfl := Option.some.inj h1
    exact fin_pure hΓ (.inr rfl) rfl rfl
  · have h2 := cF h hb
    obtain ⟨y3, hy3, h4⟩ := bi_ok h2
    refine go hΓ 6 rfl ?_
    refine eo_o rfl (op_remZ hy3 rfl rfl) ?_
    obtain ⟨q5, hq5, h6⟩ := bi_ok h4
    refine go_ops hΓ 10 rfl ?_
    refine j_cutNZ [(0, I q5)] [] ?_ ?_
    · refine j_cond rfl (fun hb => ?_) (fun hb => ?_)
      · have h7 := cT hq5 hb
        refine go hΓ 6 rfl ?_
        obtain rfl := Option.some.inj h7
        exact ⟨⟨rfl, trivial⟩, [], rfl, .inl rfl⟩
      · have h8 := cF hq5 hb
        refine go hΓ 1 rfl ?_
        obtain rfl := Option.some.inj h8
        exact ⟨⟨rfl, trivial⟩, [], rfl, .inl rfl⟩
    · refine go hΓ 8 rfl ?_
      obtain rfl := Option.some.inj h6
      exact fin_pure hΓ (.inr rfl) rfl rfl

theorem c_lanemake_Stream_Next {s : T_lanemake_Stream} {n : Int} {r : Int × T_lanemake_Stream} (h : m_lanemake_Stream_Next s n = some r) : EC Tryd.prog 39 [.ptr 0 0, I n] [.box 25 [.d (Sl (eN .i64) s.L), I s.v_at]] fun g hp' => g = I r.1 ∧ hp' = [.box 25 [.d (Sl (eN .i64) r.2.L), I r.2.v_at]] := by
  refine ec_enter (Fr.of 0 _) Tryd.func39 rfl (Fr.of_ok _) (Nat.le_of_ble_eq_true rfl) fun _ => ?_
  refine go_in ?_
  unfold m_lanemake_Stream_Next at h
  refine go hΓ 14 rfl ?_
  refine eo_store hΓ rfl rfl rfl rfl rfl rfl rfl rfl (Nat.le_of_ble_eq_true rfl) ?_
  refine eo_hp [.box 25 [.d (Sl (eN .i64) s.L), I (wi (s.v_at + 1))]] rfl ?_
  refine go_ops hΓ 13 rfl ?_
  refine j_cond rfl (fun hb => ?_) (fun hb => ?_)
  · have h1 := cT h hb
    obtain ⟨y2, hy2, h3⟩ := bi_ok h1
    refine go hΓ 8 rfl ?_
    refine eo_callP (callable Tryd.func68 rfl rfl) (c_lanemake_Below hy2) rfl (Nat.le_of_ble_eq_true rfl) rfl rfl rfl rfl rfl ?_
    refine go_ops hΓ 5 rfl ?_
    obtain rfl := Option.some.inj h3
    exact fin_objs hΓ [] (.inr rfl) rfl rfl rfl rfl (.inl rfl)
  · have h4 := cF h hb
    refine go hΓ 3 rfl ?_
    refine j_draw hmix (by kernel_rfl) ?_
    obtain ⟨y5, hy5, h6⟩ := bi_ok h4
    refine go hΓ 10 rfl ?_
    refine gl_o rfl (op_remZ hy5 rfl rfl) ?_
    refine go_draw hΓ 4 rfl ?_
    refine j_draw hmix (by kernel_rfl) ?_
    obtain ⟨y7, hy7, h8⟩ := bi_ok h6
    refine go hΓ 10 rfl ?_
    refine gl_o rfl (op_quoZ hy7 rfl rfl) ?_
    obtain ⟨x9, hx9, h10⟩ := bi_ok h8
    refine go_draw hΓ 10 rfl ?_
    refine eo_o rfl (op_elemZ hΓ (enc := (eN .i64)) hx9 rfl rfl rfl rfl rfl (fun _ => rfl)) ?_
    obtain ⟨y11, hy11, h12⟩ := bi_ok h10
    refine go_ops hΓ 1 rfl ?_
    refine eo_callP (callable Tryd.func68 rfl rfl) (c_lanemake_Below hy11) rfl (Nat.le_of_ble_eq_true rfl) rfl rfl rfl rfl rfl ?_
    obtain ⟨y13, hy13, h14⟩ := bi_ok h12
    refine go_ops hΓ 6 rfl ?_
    refine eo_callP (callable Tryd.func68 rfl rfl) (c_lanemake_Below hy13) rfl (Nat.le_of_ble_eq_true rfl) rfl rfl rfl rfl rfl ?_
    refine go_ops hΓ 4 rfl ?_
    obtain rfl := Option.some.inj h14
    exact fin_objs hΓ [] (.inr rfl) rfl rfl rfl rfl (.inl rfl)

theorem c_lanemake_Stream_Range {s : T_lanemake_Stream} {low : Int} {high : Int} {r : Int × T_lanemake_Stream} (h : m_lanemake_Stream_Range s low high = some r) : EC Tryd.prog 7 [.ptr 0 0, I low, I high] [.box 25 [.d (Sl (eN .i64) s.L), I s.v_at]] fun g hp' => g = I r.1 ∧ hp' = [.box 25 [.d (Sl (eN .i64) r.2.L), I r.2.v_at]] := by
  refine ec_enter (Fr.of 0 _) Tryd.func7 rfl (Fr.of_ok _) (Nat.le_of_ble_eq_true rfl) fun _ => ?_
  refine go_in ?_
  unfold m_lanemake_Stream_Range at h
  refine go hΓ 13 rfl ?_
  refine j_cond rfl (fun hb => ?_) (fun hb => ?_)
  · have h1 := cT h hb
    refine go hΓ 8 rfl ?_
    obtain rfl := Option.some.inj h1
    exact fin_objs hΓ [] (.inr rfl) rfl rfl rfl rfl (.inl rfl)
  · have h2 := cF h hb
    obtain ⟨y3, hy3, h4⟩ := bi_ok h2
    refine go hΓ 10 rfl ?_
    refine eo_callF [0] (I y3.1) [.box 25 [.d (Sl (eN .i64) y3.2.L), I y3.2.v_at]] (callable Tryd.func39 rfl rfl) (c_lanemake_Stream_Next hy3) rfl (Nat.le_of_ble_eq_true rfl) rfl rfl rfl rfl rfl rfl rfl rfl rfl rfl ?_
    refine go_ops hΓ 5 rfl ?_
    obtain rfl := Option.some.inj h4
    exact fin_objs hΓ [] (.inr rfl) rfl rfl rfl rfl (.inl rfl)

theorem c_lanemake_Stream_Pick {s : T_lanemake_Stream} {l : List Int} {r : Int × T_lanemake_Stream} (h : m_lanemake_Stream_Pick s l = some r) : EC Tryd.prog 8 [.ptr 0 0, .d (Sl (eN .i64) l)] [.box 25 [.d (Sl (eN .i64) s.L), I s.v_at]] fun g hp' => g = I r.1 ∧ hp' = [.box 25 [.d (Sl (eN .i64) r.2.L), I r.2.v_at]] := by
  refine ec_enter (Fr.of 0 _) Tryd.func8 rfl (Fr.of_ok _) (Nat.le_of_ble_eq_true rfl) fun _ => ?_
  refine go_in ?_
  unfold m_lanemake_Stream_Pick at h
  obtain ⟨y1, hy1, h2⟩ := bi_ok h
  refine go hΓ 11 rfl ?_
  refine eo_callF [0] (I y1.1) [.box 25 [.d (Sl (eN .i64) y1.2.L), I y1.2.v_at]] (callable Tryd.func39 rfl rfl) (c_lanemake_Stream_Next hy1) rfl (Nat.le_of_ble_eq_true rfl) rfl rfl rfl rfl rfl rfl rfl rfl rfl rfl ?_
  obtain ⟨x3, hx3, h4⟩ := bi_ok h2
  refine eo_o rfl (op_elemZ hΓ (enc := (eN .i64)) hx3 rfl rfl rfl rfl rfl (fun _ => rfl)) ?_
  refine go_ops hΓ 5 rfl ?_
  obtain rfl := Option.some.inj h4
  exact fin_objs hΓ [] (.inr rfl) rfl rfl rfl rfl (.inl rfl)

theorem c_lanemake_Stream_Flip {s : T_lanemake_Stream} {n : Int} {r : Bool × T_lanemake_Stream} (h : m_lanemake_Stream_Flip s n = some r) : EC Tryd.prog 37 [.ptr 0 0, I n] [.box 25 [.d (Sl (eN .i64) s.L), I s.v_at]] fun g hp' => g = B r.1 ∧ hp' = [.box 25 [.d (Sl (eN .i64) r.2.L), I r.2.v_at]] := by
  refine ec_enter (Fr.of 0 _) Tryd.func37 rfl (Fr.of_ok _) (Nat.le_of_ble_eq_true rfl) fun _ => ?_
  refine go_in ?_
  unfold m_lanemake_Stream_Flip at h
  obtain ⟨y1, hy1, h2⟩ := bi_ok h
  refine go hΓ 9 rfl ?_
  refine eo_callF [0] (I y1.1) [.box 25 [.d (Sl (eN .i64) y1.2.L), I y1.2.v_at]] (callable Tryd.func39 rfl rfl) (c_lanemake_Stream_Next hy1) rfl (Nat.le_of_ble_eq_true rfl) rfl rfl rfl rfl rfl rfl rfl rfl rfl rfl ?_
  refine go_ops hΓ 5 rfl ?_
  obtain rfl := Option.some.inj h2
  exact fin_objs hΓ [] (.inr rfl) rfl rfl rfl rfl (.inl rfl)

theorem c_lanemake_Stream_Odd {s : T_lanemake_Stream} {low : Int} {high : Int} {r : Int × T_lanemake_Stream} (h : m_lanemake_Stream_Odd s low high = some r) : EC Tryd.prog 38 [.ptr 0 0, I low, I high] [.box 25 [.d (Sl (eN .i64) s.L), I s.v_at]] fun g hp' => g = I r.1 ∧ hp' = [.box 25 [.d (Sl (eN .i64) r.2.L), I r.2.v_at]] := by
  refine ec_enter (Fr.of 0 _) Tryd.func38 rfl (Fr.of_ok _) (Nat.le_of_ble_eq_true rfl) fun _ => ?_
  refine go_in ?_
  unfold m_lanemake_Stream_Odd at h
  obtain ⟨y1, hy1, h2⟩ := bi_ok h
  refine go hΓ 9 rfl ?_
  refine eo_callF [0] (B y1.1) [.box 25 [.d (Sl (eN .i64) y1.2.L), I y1.2.v_at]] (callable Tryd.func37 rfl rfl) (c_lanemake_Stream_Flip hy1) rfl (Nat.le_of_ble_eq_true rfl) rfl rfl rfl rfl rfl rfl rfl rfl rfl rfl ?_
  refine go_ops hΓ 2 rfl ?_
  refine j_cond rfl (fun hb => ?_) (fun hb => ?_)
  · have h3 := cT h2 hb
    refine go hΓ 9 rfl ?_
    refine eo_litT hΓ (enc := (eN .i64)) [wi (low - 1), wi (high + 1), low, high, -1099511627776, 1099511627776] rfl rfl rfl rfl rfl rfl rfl rfl rfl rfl rfl rfl (Nat.le_of_ble_eq_true rfl) ?_
    obtain ⟨y4, hy4, h5⟩ := bi_ok h3
    refine eo_callF [0] (I y4.1) [.box 25 [.d (Sl (eN .i64) y4.2.L), I y4.2.v_at]] (callable Tryd.func8 rfl rfl) (c_lanemake_Stream_Pick hy4) rfl (Nat.le_of_ble_eq_true rfl) rfl rfl rfl rfl rfl rfl rfl rfl rfl rfl ?_
    refine go_ops hΓ 5 rfl ?_
    obtain rfl := Option.some.inj h5
    exact fin_objs hΓ [] (.inr rfl) rfl rfl rfl rfl (.inl rfl)
  · have h6 := cF h2 hb
    obtain ⟨y7, hy7, h8⟩ := bi_ok h6
    refine go hΓ 7 rfl ?_
    refine eo_callF [0] (I y7.1) [.box 25 [.d (Sl (eN .i64) y7.2.L), I y7.2.v_at]] (callable Tryd.func7 rfl rfl) (c_lanemake_Stream_Range hy7) rfl (Nat.le_of_ble_eq_true rfl) rfl rfl rfl rfl rfl rfl rfl rfl rfl rfl ?_
    refine go_ops hΓ 4 rfl ?_
    obtain rfl := Option.some.inj h8
    exact fin_objs hΓ [] (.inr rfl) rfl rfl rfl rfl (.inl rfl)

theorem c_lanemake_Stream_Some {s : T_lanemake_Stream} {l : List Str} {r : Str × T_lanemake_Stream} (h : m_lanemake_Stream_Some s l = some r) : EC Tryd.prog 9 [.ptr 0 0, .d (Sl eS l)] [.box 25 [.d (Sl (eN .i64) s.L), I s.v_at]] fun g hp' => g = S r.1 ∧ hp' = [.box 25 [.d (Sl (eN .i64) r.2.L), I r.2.v_at]] := by
  refine ec_enter (Fr.of 0 _) Tryd.func9 rfl (Fr.of_ok _) (Nat.le_of_ble_eq_true rfl) fun _ => ?_
  refine go_in ?_
  unfold m_lanemake_Stream_Some at h
  obtain ⟨y1, hy1, h2⟩ := bi_ok h
  refine go hΓ 11 rfl ?_
  refine eo_callF [0] (I y1.1) [.box 25 [.d (Sl (eN .i64) y1.2.L), I y1.2.v_at]] (callable Tryd.func39 rfl rfl) (c_lanemake_Stream_Next hy1) rfl (Nat.le_of_ble_eq_true rfl) rfl rfl rfl rfl rfl rfl rfl rfl rfl rfl ?_
  obtain ⟨x3, hx3, h4⟩ := bi_ok h2
  refine eo_o rfl (op_elemZ hΓ (enc := eS) hx3 rfl rfl rfl rfl rfl (fun _ => rfl)) ?_
  refine go_ops hΓ 5 rfl ?_
  obtain rfl := Option.some.inj h4
  exact fin_objs hΓ [] (.inr rfl) rfl rfl rfl rfl (.inl rfl)

theorem c_lanemake_Stream_Samples {s : T_lanemake_Stream} {many : Int} {r : (List T_api_Sample) × T_lanemake_Stream} (h : m_lanemake_Stream_Samples s many = some r) : EC Tryd.prog 31 [.ptr 0 0, I many] [.box 25 [.d (Sl (eN .i64) s.L), I s.v_at]] fun g hp' => g = .sl 1 r.1.length ∧ hp' = [.box 25 [.d (Sl (eN .i64) r.2.L), I r.2.v_at], .row 92 3 r.1.length (r.1.flatMap e_api_Sample)] := by
  refine ec_enter (Fr.of 0 _) Tryd.func31 rfl (Fr.of_ok _) (Nat.le_of_ble_eq_true rfl) fun _ => ?_
  refine go_in ?_
  unfold m_lanemake_Stream_Samples at h
  refine go hΓ 7 rfl ?_
  refine eo_nilOwn (t := 0) 92 3 rfl (Nat.le_of_ble_eq_true rfl) ?_
  refine go_ops hΓ 14 rfl ?_
  obtain ⟨q4, hq4, h5⟩ := bi_ok h
  obtain ⟨hb7, h8⟩ := gd_ok hq4
  replace hb7 := of_decide_eq_true hb7
  refine j_cutNZ [(0, .ptr 0 0), (5, .sl 1 q4.2.1.length)] [.box 25 [.d (Sl (eN .i64) q4.1.L), I q4.1.v_at], .row 92 3 q4.2.1.length (q4.2.1.flatMap e_api_Sample)] ?_ ?_
  · refine go hΓ 1 rfl ?_
    refine j_rangeG h8 (fun i1 s2 => [(0, .ptr 0 0), (5, .sl 1 s2.2.1.length), (6, I s2.2.2), (9, I many), (10, I (i1 : Int))]) (fun s2 => [.box 25 [.d (Sl (eN .i64) s2.1.L), I s2.1.v_at], .row 92 3 s2.2.1.length (s2.2.1.flatMap e_api_Sample)]) ⟨⟨rfl, rfl, rfl, rfl, rfl, trivial⟩, [], rfl, .inl rfl⟩ (fun i1 s2 y12 hlt hy10 => ?_) (fun hge => ?_)
    · refine go hΓ 6 rfl ?_
      refine j_condT rfl (decide_eq_true hlt) ?_
      refine go hΓ 8 rfl ?_
      refine eo_litT hΓ (enc := (eN .i64)) [1, 1, 5, 20] rfl rfl rfl rfl rfl rfl rfl rfl rfl rfl rfl rfl (Nat.le_of_ble_eq_true rfl) ?_
      obtain ⟨y13, hy13, h14⟩ := bi_ok hy10
      refine eo_callF [0] (I y13.1) [.box 25 [.d (Sl (eN .i64) y13.2.L), I y13.2.v_at], .row 92 3 s2.2.1.length (s2.2.1.flatMap e_api_Sample)] (callable Tryd.func8 rfl rfl) (c_lanemake_Stream_Pick hy13) rfl (Nat.le_of_ble_eq_true rfl) rfl rfl rfl rfl rfl rfl rfl rfl rfl rfl ?_
      refine go_ops hΓ 6 rfl ?_
      refine eo_litT hΓ (enc := eS) [[112], [113], [114]] rfl rfl rfl rfl rfl rfl rfl rfl rfl rfl rfl rfl (Nat.le_of_ble_eq_true rfl) ?_
      refine go_ops hΓ 4 rfl ?_
      obtain ⟨q18, hq18, h19⟩ := bi_ok h14
      refine j_bound 17 rfl fun hb21 => ?_
      refine j_cutNZ [(0, .ptr 0 0), (5, .sl 1 q18.2.length), (6, I (wi (s2.2.2 + y13.1))), (9, I many), (10, I (i1 : Int))] [.box 25 [.d (Sl (eN .i64) q18.1.L), I q18.1.v_at], .row 92 3 q18.2.length (q18.2.flatMap e_api_Sample)] ?_ ?_
      · refine go hΓ 1 rfl ?_
        refine j_rangeF [[112], [113], [114]] hq18 (fun i15 s16 => [(0, .ptr 0 0), (5, .sl 1 s16.2.length), (6, I (wi (s2.2.2 + y13.1))), (9, I many), (10, I (i1 : Int)), (17, .d (Sl eS [[112], [113], [114]])), (18, I ([[112], [113], [114]].length : Int)), (19, I (i15 : Int))]) (fun s16 => [.box 25 [.d (Sl (eN .i64) s16.1.L), I s16.1.v_at], .row 92 3 s16.2.length (s16.2.flatMap e_api_Sample)]) ⟨⟨rfl, rfl, rfl, rfl, rfl, rfl, rfl, rfl, trivial⟩, [], rfl, .inl rfl⟩ (fun i15 x17 s16 y25 hx22 hlt hy23 => ?_) (?_)
        · refine go hΓ 6 rfl ?_
          refine j_condT rfl (decide_eq_true (Int.ofNat_lt.2 hlt)) ?_
          refine go hΓ 6 rfl ?_
          refine eo_o rfl (op_elemZ hΓ (enc := eS) (getZ_nat hx22) rfl rfl rfl rfl rfl (fun _ => rfl)) ?_
          obtain ⟨y26, hy26, h27⟩ := bi_ok hy23
          refine go_ops hΓ 7 rfl ?_
          refine eo_callF [0] (B y26.1) [.box 25 [.d (Sl (eN .i64) y26.2.L), I y26.2.v_at], .row 92 3 s16.2.length (s16.2.flatMap e_api_Sample)] (callable Tryd.func37 rfl rfl) (c_lanemake_Stream_Flip hy26) rfl (Nat.le_of_ble_eq_true rfl) rfl rfl rfl rfl rfl rfl rfl rfl rfl rfl ?_
          refine go_ops hΓ 2 rfl ?_
          refine j_cond rfl (fun hb => ?_) (fun hb => ?_)
          · have h28 := cT h27 hb
            refine go hΓ 5 rfl ?_
            refine eo_litT hΓ (enc := (eN .i64)) [-1, 3, 5, 8, 8, 12] rfl rfl rfl rfl rfl rfl rfl rfl rfl rfl rfl rfl (Nat.le_of_ble_eq_true rfl) ?_
            obtain ⟨y29, hy29, h30⟩ := bi_ok h28
            refine eo_callF [0] (I y29.1) [.box 25 [.d (Sl (eN .i64) y29.2.L), I y29.2.v_at], .row 92 3 s16.2.length (s16.2.flatMap e_api_Sample)] (callable Tryd.func8 rfl rfl) (c_lanemake_Stream_Pick hy29) rfl (Nat.le_of_ble_eq_true rfl) rfl rfl rfl rfl rfl rfl rfl rfl rfl rfl ?_
            refine eo_build hΓ (gs := [I (wi (s2.2.2 + y13.1)), S x17, I y29.1]) rfl rfl rfl rfl rfl rfl rfl ?_
            refine eo_litT hΓ (enc := e_api_Sample) [(⟨wi (s2.2.2 + y13.1), x17, y29.1⟩ : T_api_Sample)] rfl rfl rfl rfl rfl rfl rfl rfl rfl rfl rfl rfl (Nat.le_of_ble_eq_true rfl) ?_
            obtain ⟨y31, hy31, h32⟩ := bi_ok h30
            refine eo_appendT hΓ (enc := e_api_Sample) hy31 rfl rfl rfl rfl rfl rfl rfl rfl rfl (fun _ => rfl) rfl rfl rfl rfl ?_
            refine go_ops hΓ 8 rfl ?_
            obtain rfl := Option.some.inj h32
            exact ⟨⟨rfl, rfl, rfl, rfl, rfl, rfl, rfl, get_eq rfl (w64_succ (Nat.lt_of_lt_of_le hlt hb21)), trivial⟩, [], rfl, .inl rfl⟩
          · have h33 := cF h27 hb
            refine go hΓ 7 rfl ?_
            obtain rfl := Option.some.inj h33
            exact ⟨⟨rfl, rfl, rfl, rfl, rfl, rfl, rfl, get_eq rfl (w64_succ (Nat.lt_of_lt_of_le hlt hb21)), trivial⟩, [], rfl, .inl rfl⟩
        · refine go hΓ 6 rfl ?_
          refine j_condF rfl (decide_eq_false (Int.lt_irrefl _)) ?_
          refine go hΓ 4 rfl ?_
          exact ⟨⟨rfl, rfl, rfl, rfl, rfl, trivial⟩, [], rfl, .inl rfl⟩
      · refine go hΓ 6 rfl ?_
        obtain rfl := Option.some.inj h19
        exact ⟨⟨rfl, rfl, rfl, rfl, get_eq rfl (w64_succ (by omega)), trivial⟩, [], rfl, .inl rfl⟩
    · refine go hΓ 6 rfl ?_
      refine j_condF rfl (decide_eq_false hge) ?_
      refine go hΓ 4 rfl ?_
      exact ⟨⟨rfl, rfl, trivial⟩, [], rfl, .inl rfl⟩
  · obtain ⟨y34, hy34, h35⟩ := bi_ok h5
    refine go hΓ 5 rfl ?_
    refine eo_callF [0] (B y34.1) [.box 25 [.d (Sl (eN .i64) y34.2.L), I y34.2.v_at], .row 92 3 q4.2.1.length (q4.2.1.flatMap e_api_Sample)] (callable Tryd.func37 rfl rfl) (c_lanemake_Stream_Flip hy34) rfl (Nat.le_of_ble_eq_true rfl) rfl rfl rfl rfl rfl rfl rfl rfl rfl rfl ?_
    obtain ⟨q36, hq36, h37⟩ := bi_ok h35
    refine go_ops hΓ 2 rfl ?_
    refine j_cutNZ [(5, .sl 1 q36.2.length)] [.box 25 [.d (Sl (eN .i64) q36.1.L), I q36.1.v_at], .row 92 3 q36.2.length (q36.2.flatMap e_api_Sample)] ?_ ?_
    · refine j_cond rfl (fun hb => ?_) (fun hb => ?_)
      · have h38 := cT hq36 hb
        obtain ⟨y39, hy39, h40⟩ := bi_ok h38
        refine go hΓ 3 rfl ?_
        refine eo_callF [0] (I y39.1) [.box 25 [.d (Sl (eN .i64) y39.2.L), I y39.2.v_at], .row 92 3 q4.2.1.length (q4.2.1.flatMap e_api_Sample)] (callable Tryd.func38 rfl rfl) (c_lanemake_Stream_Odd hy39) rfl (Nat.le_of_ble_eq_true rfl) rfl rfl rfl rfl rfl rfl rfl rfl rfl rfl ?_
        refine go_ops hΓ 1 rfl ?_
        refine eo_litT hΓ (enc := eS) [[], [112]] rfl rfl rfl rfl rfl rfl rfl rfl rfl rfl rfl rfl (Nat.le_of_ble_eq_true rfl) ?_
        obtain ⟨y41, hy41, h42⟩ := bi_ok h40
        refine eo_callF [0] (S y41.1) [.box 25 [.d (Sl (eN .i64) y41.2.L), I y41.2.v_at], .row 92 3 q4.2.1.length (q4.2.1.flatMap e_api_Sample)] (callable Tryd.func9 rfl rfl) (c_lanemake_Stream_Some hy41) rfl (Nat.le_of_ble_eq_true rfl) rfl rfl rfl rfl rfl rfl rfl rfl rfl rfl ?_
        obtain ⟨y43, hy43, h44⟩ := bi_ok h42
        refine go_ops hΓ 1 rfl ?_
        refine eo_callF [0] (I y43.1) [.box 25 [.d (Sl (eN .i64) y43.2.L), I y43.2.v_at], .row 92 3 q4.2.1.length (q4.2.1.flatMap e_api_Sample)] (callable Tryd.func38 rfl rfl) (c_lanemake_Stream_Odd hy43) rfl (Nat.le_of_ble_eq_true rfl) rfl rfl rfl rfl rfl rfl rfl rfl rfl rfl ?_
        refine eo_build hΓ (gs := [I y39.1, S y41.1, I y43.1]) rfl rfl rfl rfl rfl rfl rfl ?_
        refine eo_litT hΓ (enc := e_api_Sample) [(⟨y39.1, y41.1, y43.1⟩ : T_api_Sample)] rfl rfl rfl rfl rfl rfl rfl rfl rfl rfl rfl rfl (Nat.le_of_ble_eq_true rfl) ?_
        obtain ⟨y45, hy45, h46⟩ := bi_ok h44
        refine eo_appendT hΓ (enc := e_api_Sample) hy45 rfl rfl rfl rfl rfl rfl rfl rfl rfl (fun _ => rfl) rfl rfl rfl rfl ?_
        refine go_ops hΓ 2 rfl ?_
        obtain rfl := Option.some.inj h46
        exact ⟨⟨rfl, trivial⟩, [], rfl, .inl rfl⟩
      · have h47 := cF hq36 hb
        refine go hΓ 1 rfl ?_
        obtain rfl := Option.some.inj h47
        exact ⟨⟨rfl, trivial⟩, [], rfl, .inl rfl⟩
    · refine go hΓ 8 rfl ?_
      obtain rfl := Option.some.inj h37
      exact fin_objs hΓ [] (.inr rfl) rfl rfl rfl rfl (.inl rfl)

theorem c_kit_IsMoment {n : Int} {r : Bool} (h : m_kit_IsMoment n = some r) : Pure Tryd.prog 50 [I n] (B r) := by
  refine Pure.enter (Fr.of 0 _) Tryd.func50 rfl (Fr.of_ok _) rfl rfl ?_
  refine go_in ?_
  unfold m_kit_IsMoment at h
  refine go hΓ 10 rfl ?_
  refine o_cut 3 [(2, B false), (8, B ((decide ((n : Int) ≥ 0)) && (decide ((n : Int) < 345686400))))] [] ?_ ?_
  · refine eo_gsplit rfl rfl (fun hb => ?_) (fun hb => ?_)
    · refine go_ops hΓ 4 rfl ?_
      exact ⟨⟨rfl, get_b rfl (and_t hb), trivial⟩, [], rfl, .inl rfl⟩
    · refine go_ops hΓ 4 rfl ?_
      exact ⟨⟨rfl, get_b rfl (and_f hb), trivial⟩, [], rfl, .inl rfl⟩
  · refine go_ops hΓ 4 rfl ?_
    obtain rfl := Option.some.inj h
    exact fin_pure hΓ (.inr rfl) rfl rfl

theorem c_kit_IsKey {k : Nat} {s : Str} {r : Bool} (h : m_kit_IsKey k s = some r) : Pure Tryd.prog 51 [S s] (B r) := by
  refine Pure.enter (Fr.of 0 _) Tryd.func51 rfl (Fr.of_ok _) rfl rfl ?_
  refine go_in ?_
  unfold m_kit_IsKey at h
  refine go hΓ 11 rfl ?_
  obtain ⟨q4, hq4, h5⟩ := bi_ok h
  refine j_cutEZ (R := fun a6 => q4 = .inl a6) (fun a6 => [(0, S s)]) (fun a6 => []) ?_ ?_
  · refine go hΓ 1 rfl ?_
    refine j_loop hq4 (fun s2 => [(0, S s), (3, I s2)]) (fun s2 => []) ⟨⟨rfl, rfl, trivial⟩, [], rfl, .inl rfl⟩ (fun s2 y10 hy8 hout9 => ?_)
    refine go hΓ 9 rfl ?_
    refine j_cond rfl (fun hb => ?_) (fun hb => ?_)
    · have h11 := cT hy8 hb
      obtain ⟨c12, hc12, h13⟩ := bi_ok h11
      refine go hΓ 8 rfl ?_
      refine eo_o rfl (op_byteZ hΓ hc12 rfl rfl rfl rfl) ?_
      refine go_ops hΓ 8 rfl ?_
      refine o_cut 3 [(0, S s), (3, I s2), (4, .d (.v (.int .u8 (c12.toNat : Int)))), (19, B ((decide (((c12.toNat : Int) : Int) ≥ 97)) && (decide (((c12.toNat : Int) : Int) ≤ 122))))] [] ?_ ?_
      · refine eo_gsplit rfl rfl (fun hb => ?_) (fun hb => ?_)
        · refine go_ops hΓ 4 rfl ?_
          exact ⟨⟨rfl, rfl, rfl, get_b rfl (and_t hb), trivial⟩, [], rfl, .inl rfl⟩
        · refine go_ops hΓ 4 rfl ?_
          exact ⟨⟨rfl, rfl, rfl, get_b rfl (and_f hb), trivial⟩, [], rfl, .inl rfl⟩
      · refine go_ops hΓ 1 rfl ?_
        refine o_cut 19 [(0, S s), (3, I s2), (39, B (((decide (((c12.toNat : Int) : Int) ≥ 97)) && (decide (((c12.toNat : Int) : Int) ≤ 122))) || ((decide ((s2 : Int) > 0)) && ((((decide (((c12.toNat : Int) : Int) ≥ 48)) && (decide (((c12.toNat : Int) : Int) ≤ 57))) || (((c12.toNat : Int) : Int) == 45)) || (((c12.toNat : Int) : Int) == 95)))))] [] ?_ ?_
        · refine eo_gsplit rfl rfl (fun hb => ?_) (fun hb => ?_)
          · refine go_ops hΓ 20 rfl ?_
            exact ⟨⟨rfl, rfl, get_b rfl (or_t hb), trivial⟩, [], rfl, .inl rfl⟩
          · refine go_ops hΓ 3 rfl ?_
            refine o_cut 15 [(0, S s), (3, I s2), (20, B false), (38, B ((decide ((s2 : Int) > 0)) && ((((decide (((c12.toNat : Int) : Int) ≥ 48)) && (decide (((c12.toNat : Int) : Int) ≤ 57))) || (((c12.toNat : Int) : Int) == 45)) || (((c12.toNat : Int) : Int) == 95))))] [] ?_ ?_
            · refine eo_gsplit rfl rfl (fun hb => ?_) (fun hb => ?_)
              · refine go_ops hΓ 3 rfl ?_
                refine o_cut 3 [(0, S s), (3, I s2), (4, .d (.v (.int .u8 (c12.toNat : Int)))), (20, B false), (23, B true), (29, B ((decide (((c12.toNat : Int) : Int) ≥ 48)) && (decide (((c12.toNat : Int) : Int) ≤ 57))))] [] ?_ ?_
                · refine eo_gsplit rfl rfl (fun hb => ?_) (fun hb => ?_)
                  · refine go_ops hΓ 4 rfl ?_
                    exact ⟨⟨rfl, rfl, rfl, rfl, rfl, get_b rfl (and_t hb), trivial⟩, [], rfl, .inl rfl⟩
                  · refine go_ops hΓ 4 rfl ?_
                    exact ⟨⟨rfl, rfl, rfl, rfl, rfl, get_b rfl (and_f hb), trivial⟩, [], rfl, .inl rfl⟩
                · refine go_ops hΓ 1 rfl ?_
                  refine o_cut 3 [(0, S s), (3, I s2), (4, .d (.v (.int .u8 (c12.toNat : Int)))), (20, B false), (23, B true), (33, B (((decide (((c12.toNat : Int) : Int) ≥ 48)) && (decide (((c12.toNat : Int) : Int) ≤ 57))) || (((c12.toNat : Int) : Int) == 45)))] [] ?_ ?_
                  · refine eo_gsplit rfl rfl (fun hb => ?_) (fun hb => ?_)
                    · refine go_ops hΓ 4 rfl ?_
                      exact ⟨⟨rfl, rfl, rfl, rfl, rfl, get_b rfl (or_t hb), trivial⟩, [], rfl, .inl rfl⟩
                    · refine go_ops hΓ 4 rfl ?_
                      exact ⟨⟨rfl, rfl, rfl, rfl, rfl, get_b rfl (or_f hb), trivial⟩, [], rfl, .inl rfl⟩
                  · refine go_ops hΓ 1 rfl ?_
                    refine o_cut 3 [(0, S s), (3, I s2), (20, B false), (23, B true), (37, B ((((decide (((c12.toNat : Int) : Int) ≥ 48)) && (decide (((c12.toNat : Int) : Int) ≤ 57))) || (((c12.toNat : Int) : Int) == 45)) || (((c12.toNat : Int) : Int) == 95)))] [] ?_ ?_
                    · refine eo_gsplit rfl rfl (fun hb => ?_) (fun hb => ?_)
                      · refine go_ops hΓ 4 rfl ?_
                        exact ⟨⟨rfl, rfl, rfl, rfl, get_b rfl (or_t hb), trivial⟩, [], rfl, .inl rfl⟩
                      · refine go_ops hΓ 4 rfl ?_
                        exact ⟨⟨rfl, rfl, rfl, rfl, get_b rfl (or_f hb), trivial⟩, [], rfl, .inl rfl⟩
                    · refine go_ops hΓ 2 rfl ?_
                      exact ⟨⟨rfl, rfl, rfl, get_b rfl (and_t hb), trivial⟩, [], rfl, .inl rfl⟩
              · refine go_ops hΓ 16 rfl ?_
                exact ⟨⟨rfl, rfl, rfl, get_b rfl (and_f hb), trivial⟩, [], rfl, .inl rfl⟩
            · refine go_ops hΓ 2 rfl ?_
              exact ⟨⟨rfl, rfl, get_b rfl (or_f hb), trivial⟩, [], rfl, .inl rfl⟩
        · refine go_ops hΓ 3 rfl ?_
          refine j_cond rfl (fun hb => ?_) (fun hb => ?_)
          · have h14 := cT h13 hb
            refine go hΓ 8 rfl ?_
            obtain ⟨v15, hv15, h16⟩ := bi_ok h14
            obtain rfl := Option.some.inj h16
            obtain rfl := hout9 _ rfl
            obtain rfl := Option.some.inj h5
            refine go hΓ 4 rfl ?_
            obtain rfl := Option.some.inj hv15
            exact fin_pure hΓ (.inr rfl) rfl rfl
          · have h17 := cF h13 hb
            refine go hΓ 8 rfl ?_
            obtain rfl := Option.some.inj h17
            exact ⟨_, rfl, ⟨⟨rfl, rfl, trivial⟩, [], rfl, .inl rfl⟩⟩
    · have h18 := cF hy8 hb
      refine go hΓ 4 rfl ?_
      obtain rfl := Option.some.inj h18
      obtain rfl := hout9 _ rfl
      exact ⟨_, rfl, ⟨⟨rfl, trivial⟩, [], rfl, .inl rfl⟩⟩
  · intro a6 ha
    subst ha
    replace h5 := orI_l h5
    refine go hΓ 6 rfl ?_
    refine o_cut 4 [(47, B ((!((s : Str) == [])) && (decide (((s.length : Int) : Int) ≤ 40))))] [] ?_ ?_
    · refine eo_gsplit rfl rfl (fun hb => ?_) (fun hb => ?_)
      · refine go_ops hΓ 5 rfl ?_
        exact ⟨⟨get_b rfl (and_t hb), trivial⟩, [], rfl, .inl rfl⟩
      · refine go_ops hΓ 5 rfl ?_
        exact ⟨⟨get_b rfl (and_f hb), trivial⟩, [], rfl, .inl rfl⟩
    · refine go_ops hΓ 4 rfl ?_
      obtain rfl := Option.some.inj h5
      exact fin_pure hΓ (.inr rfl) rfl rfl

theorem c_kit_Outside {n : Int} {low : Int} {high : Int} {r : Bool} (h : m_kit_Outside n low high = some r) : Pure Tryd.prog 52 [I n, I low, I high] (B r) := by
  refine Pure.enter (Fr.of 0 _) Tryd.func52 rfl (Fr.of_ok _) rfl rfl ?_
  refine go_in ?_
  unfold m_kit_Outside at h
  refine go hΓ 11 rfl ?_
  refine o_cut 4 [(6, B false), (14, B ((decide ((n : Int) < low)) || (decide ((n : Int) > high))))] [] ?_ ?_
  · refine eo_gsplit rfl rfl (fun hb => ?_) (fun hb => ?_)
    · refine go_ops hΓ 5 rfl ?_
      exact ⟨⟨rfl, get_b rfl (or_t hb), trivial⟩, [], rfl, .inl rfl⟩
    · refine go_ops hΓ 5 rfl ?_
      exact ⟨⟨rfl, get_b rfl (or_f hb), trivial⟩, [], rfl, .inl rfl⟩
  · refine go_ops hΓ 4 rfl ?_
    obtain rfl := Option.some.inj h
    exact fin_pure hΓ (.inr rfl) rfl rfl

theorem c_cmp_isNaN_int {x : Int} {r : Bool} (h : m_cmp_isNaN_int x = some r) : Pure Tryd.prog 74 [I x] (B r) := by
  refine Pure.enter (Fr.of 0 _) Tryd.func74 rfl (Fr.of_ok _) rfl rfl ?_
  refine go_in ?_
  unfold m_cmp_isNaN_int at h
  refine go hΓ 14 rfl ?_
  obtain rfl := Option.some.inj h
  exact fin_pure hΓ (.inr rfl) rfl rfl

theorem c_cmp_Compare_int {x : Int} {y : Int} {r : Int} (h : m_cmp_Compare_int x y = some r) : Pure Tryd.prog 48 [I x, I y] (I r) := by
  refine Pure.enter (Fr.of 0 _) Tryd.func48 rfl (Fr.of_ok _) rfl rfl ?_
  refine go_in ?_
  unfold m_cmp_Compare_int at h
  obtain ⟨y1, hy1, h2⟩ := bi_ok h
  refine go hΓ 8 rfl ?_
  refine eo_callP (callable Tryd.func74 rfl rfl) (c_cmp_isNaN_int hy1) rfl (Nat.le_of_ble_eq_true rfl) rfl rfl rfl rfl rfl ?_
  obtain ⟨y3, hy3, h4⟩ := bi_ok h2
  refine go_ops hΓ 6 rfl ?_
  refine eo_callP (callable Tryd.func74 rfl rfl) (c_cmp_isNaN_int hy3) rfl (Nat.le_of_ble_eq_true rfl) rfl rfl rfl rfl rfl ?_
  refine go_ops hΓ 9 rfl ?_
  refine j_cond rfl (fun hb => ?_) (fun hb => ?_)
  · have h5 := cT h4 hb
    refine go hΓ 6 rfl ?_
    refine j_cond rfl (fun hb => ?_) (fun hb => ?_)
    · have h6 := cT h5 hb
      refine go hΓ 8 rfl ?_
      obtain rfl := Option.some.inj h6
      exact fin_pure hΓ (.inr rfl) rfl rfl
    · have h7 := cF h5 hb
      refine go hΓ 9 rfl ?_
      obtain rfl := Option.some.inj h7
      exact fin_pure hΓ (.inr rfl) rfl rfl
  · have h8 := cF h4 hb
    refine go hΓ 8 rfl ?_
    refine j_cond rfl (fun hb => ?_) (fun hb => ?_)
    · have h9 := cT h8 hb
      refine go hΓ 7 rfl ?_
      obtain rfl := Option.some.inj h9
      exact fin_pure hΓ (.inr rfl) rfl rfl
    · have h10 := cF h8 hb
      refine go hΓ 10 rfl ?_
      refine j_cond rfl (fun hb => ?_) (fun hb => ?_)
      · have h11 := cT h10 hb
        refine go hΓ 7 rfl ?_
        obtain rfl := Option.some.inj h11
        exact fin_pure hΓ (.inr rfl) rfl rfl
      · have h12 := cF h10 hb
        refine go hΓ 10 rfl ?_
        refine j_cond rfl (fun hb => ?_) (fun hb => ?_)
        · have h13 := cT h12 hb
          refine go hΓ 7 rfl ?_
          obtain rfl := Option.some.inj h13
          exact fin_pure hΓ (.inr rfl) rfl rfl
        · have h14 := cF h12 hb
          refine go hΓ 8 rfl ?_
          obtain rfl := Option.some.inj h14
          exact fin_pure hΓ (.inr rfl) rfl rfl

theorem c_cmp_Or_int {vals : List Int} {r : Int} (h : m_cmp_Or_int vals = some r) : Pure Tryd.prog 47 [.d (Sl (eN .i64) vals)] (I r) := by
  refine Pure.enter (Fr.of 0 _) Tryd.func47 rfl (Fr.of_ok _) rfl rfl ?_
  refine go_in ?_
  unfold m_cmp_Or_int at h
  refine go hΓ 18 rfl ?_
  obtain ⟨q4, hq4, h5⟩ := bi_ok h
  refine j_bound 6 rfl fun hb7 => ?_
  refine j_cutEZ (R := fun a6 => q4 = .go a6) (fun a6 => [(3, I 0)]) (fun a6 => []) ?_ ?_
  · refine go hΓ 1 rfl ?_
    refine j_range vals hq4 (fun i1 s2 => [(3, I 0), (6, .d (Sl (eN .i64) vals)), (7, I (vals.length : Int)), (8, I (i1 : Int))]) (fun s2 => []) ⟨⟨rfl, rfl, rfl, rfl, trivial⟩, [], rfl, .inl rfl⟩ (fun i1 x3 s2 y11 hx8 hlt hy9 hout10 => ?_) (fun s2 hgo => ?_)
    · refine go hΓ 6 rfl ?_
      refine j_condT rfl (decide_eq_true (Int.ofNat_lt.2 hlt)) ?_
      refine go hΓ 6 rfl ?_
      refine eo_o rfl (op_elemZ hΓ (enc := (eN .i64)) (getZ_nat hx8) rfl rfl rfl rfl rfl (fun _ => rfl)) ?_
      refine go_ops hΓ 11 rfl ?_
      refine j_cond rfl (fun hb => ?_) (fun hb => ?_)
      · have h12 := cT hy9 hb
        refine go hΓ 9 rfl ?_
        obtain ⟨v13, hv13, h14⟩ := bi_ok h12
        obtain rfl := Option.some.inj h14
        obtain rfl := hout10 _ rfl
        obtain rfl := Option.some.inj h5
        refine go hΓ 4 rfl ?_
        obtain rfl := Option.some.inj hv13
        exact fin_pure hΓ (.inr rfl) rfl rfl
      · have h15 := cF hy9 hb
        refine go hΓ 7 rfl ?_
        obtain rfl := Option.some.inj h15
        exact ⟨_, rfl, ⟨⟨rfl, rfl, rfl, get_eq rfl (w64_succ (Nat.lt_of_lt_of_le hlt hb7)), trivial⟩, [], rfl, .inl rfl⟩⟩
    · subst hgo
      refine go hΓ 6 rfl ?_
      refine j_condF rfl (decide_eq_false (Int.lt_irrefl _)) ?_
      refine go hΓ 4 rfl ?_
      exact ⟨_, rfl, ⟨⟨rfl, trivial⟩, [], rfl, .inl rfl⟩⟩
  · intro a6 ha
    subst ha
    replace h5 := goI_l h5
    refine go hΓ 8 rfl ?_
    obtain rfl := Option.some.inj h5
    exact fin_pure hΓ (.inr rfl) rfl rfl

theorem c_route_CheckSamples {k : Nat} {l : List T_api_Sample} {r : Int} (h : m_route_CheckSamples k l = some r) : Pure Tryd.prog 34 [.d (Sl e_api_Sample l)] (I r) := by
  refine Pure.enter (Fr.of 0 _) Tryd.func34 rfl (Fr.of_ok _) rfl rfl ?_
  refine go_in ?_
  unfold m_route_CheckSamples at h
  refine go hΓ 13 rfl ?_
  refine j_cond rfl (fun hb => ?_) (fun hb => ?_)
  · have h1 := cT h hb
    refine go hΓ 7 rfl ?_
    obtain rfl := Option.some.inj h1
    exact fin_pure hΓ (.inr rfl) rfl rfl
  · have h2 := cF h hb
    refine go hΓ 10 rfl ?_
    obtain ⟨q6, hq6, h7⟩ := bi_ok h2
    refine j_bound 0 rfl fun hb9 => ?_
    refine j_cutEZ (R := fun a8 => q6 = .go a8) (fun a8 => []) (fun a8 => []) ?_ ?_
    · refine go hΓ 1 rfl ?_
      refine j_range l hq6 (fun i3 s4 => [(0, .d (Sl e_api_Sample l)), (8, .d (Sl e_api_Sample l)), (9, I (l.length : Int)), (10, I (i3 : Int))]) (fun s4 => []) ⟨⟨rfl, rfl, rfl, rfl, trivial⟩, [], rfl, .inl rfl⟩ (fun i3 x5 s4 y13 hx10 hlt hy11 hout12 => ?_) (fun s4 hgo => ?_)
      · refine go hΓ 6 rfl ?_
        refine j_condT rfl (decide_eq_true (Int.ofNat_lt.2 hlt)) ?_
        refine go hΓ 7 rfl ?_
        refine eo_o rfl (op_elemZ hΓ (enc := e_api_Sample) (getZ_nat hx10) rfl rfl rfl rfl rfl (fun _ => rfl)) ?_
        refine go_ops hΓ 1 rfl ?_
        refine eo_alloc hΓ rfl rfl rfl (Nat.le_of_ble_eq_true rfl) ?_
        refine go_ops hΓ 1 rfl ?_
        refine eo_store hΓ rfl rfl rfl rfl rfl rfl rfl rfl (Nat.le_of_ble_eq_true rfl) ?_
        refine eo_hp [.box 92 [I x5.At, S x5.Path, I x5.Millis]] rfl ?_
        obtain ⟨y14, hy14, h15⟩ := bi_ok hy11
        refine go_ops hΓ 7 rfl ?_
        refine eo_callP (callable Tryd.func50 rfl rfl) (c_kit_IsMoment hy14) rfl (Nat.le_of_ble_eq_true rfl) rfl rfl rfl rfl rfl ?_
        refine go_ops hΓ 4 rfl ?_
        refine j_cond rfl (fun hb => ?_) (fun hb => ?_)
        · have h16 := cT h15 hb
          refine go hΓ 9 rfl ?_
          obtain ⟨v17, hv17, h18⟩ := bi_ok h16
          obtain rfl := Option.some.inj h18
          obtain rfl := hout12 _ rfl
          obtain rfl := Option.some.inj h7
          refine go hΓ 4 rfl ?_
          obtain rfl := Option.some.inj hv17
          exact fin_pure hΓ (.inr rfl) rfl rfl
        · have h19 := cF h15 hb
          obtain ⟨y20, hy20, h21⟩ := bi_ok h19
          refine go hΓ 4 rfl ?_
          refine eo_callP (callable Tryd.func51 rfl rfl) (c_kit_IsKey hy20) rfl (Nat.le_of_ble_eq_true rfl) rfl rfl rfl rfl rfl ?_
          refine go_ops hΓ 4 rfl ?_
          refine j_cond rfl (fun hb => ?_) (fun hb => ?_)
          · have h22 := cT h21 hb
            refine go hΓ 9 rfl ?_
            obtain ⟨v23, hv23, h24⟩ := bi_ok h22
            obtain rfl := Option.some.inj h24
            obtain rfl := hout12 _ rfl
            obtain rfl := Option.some.inj h7
            refine go hΓ 4 rfl ?_
            obtain rfl := Option.some.inj hv23
            exact fin_pure hΓ (.inr rfl) rfl rfl
          · have h25 := cF h21 hb
            obtain ⟨y26, hy26, h27⟩ := bi_ok h25
            refine go hΓ 4 rfl ?_
            refine eo_callP (callable Tryd.func52 rfl rfl) (c_kit_Outside hy26) rfl (Nat.le_of_ble_eq_true rfl) rfl rfl rfl rfl rfl ?_
            refine go_ops hΓ 3 rfl ?_
            refine j_cond rfl (fun hb => ?_) (fun hb => ?_)
            · have h28 := cT h27 hb
              refine go hΓ 9 rfl ?_
              obtain ⟨v29, hv29, h30⟩ := bi_ok h28
              obtain rfl := Option.some.inj h30
              obtain rfl := hout12 _ rfl
              obtain rfl := Option.some.inj h7
              refine go hΓ 4 rfl ?_
              obtain rfl := Option.some.inj hv29
              exact fin_pure hΓ (.inr rfl) rfl rfl
            · have h31 := cF h27 hb
              obtain ⟨q32, hq32, h33⟩ := bi_ok h31
              refine go hΓ 1 rfl ?_
              refine j_cutNZ [(0, .d (Sl e_api_Sample l)), (8, .d (Sl e_api_Sample l)), (9, I (l.length : Int)), (10, I (i3 : Int)), (29, B q32)] [.box 92 [I x5.At, S x5.Path, I x5.Millis]] ?_ ?_
              · refine j_drawE [.box 92 [I x5.At, S x5.Path, I x5.Millis]] [10, 19] [] [] hmix (by kernel_rfl) (by kernel_rfl) ⟨rfl, trivial⟩ (Nat.le_of_ble_eq_true rfl) ?_
                refine go_E hΓ 3 rfl ?_
                refine ge_gsplit rfl rfl (fun hb => ?_) (fun hb => ?_)
                · have h34 := cT hq32 hb
                  obtain ⟨x35, hx35, h36⟩ := bi_ok h34
                  refine go_E hΓ 3 rfl ?_
                  refine ge_q rfl (.inr ⟨_, _, rfl, rfl⟩) (fun _ _ => qte_of_qt (qt_p (op_elemZ hΓ (enc := e_api_Sample) hx35 rfl rfl rfl rfl rfl (fun _ => rfl)))) ?_
                  obtain ⟨y37, hy37, h38⟩ := bi_ok h36
                  refine go_E hΓ 4 rfl ?_
                  refine ge_callPg rfl (callable Tryd.func48 rfl rfl) (c_cmp_Compare_int hy37) rfl rfl rfl rfl rfl rfl ?_
                  obtain ⟨x39, hx39, h40⟩ := bi_ok h38
                  refine go_E hΓ 3 rfl ?_
                  refine ge_q rfl (.inr ⟨_, _, rfl, rfl⟩) (fun _ _ => qte_of_qt (qt_p (op_elemZ hΓ (enc := e_api_Sample) hx39 rfl rfl rfl rfl rfl (fun _ => rfl)))) ?_
                  obtain ⟨y41, hy41, h42⟩ := bi_ok h40
                  refine go_E hΓ 4 rfl ?_
                  refine ge_callPg rfl (callable Tryd.func49 rfl rfl) (c_strings_Compare hy41) rfl rfl rfl rfl rfl rfl ?_
                  refine ge_litTg hΓ (enc := (eN .i64)) [y37, y41] rfl rfl rfl rfl rfl rfl rfl rfl rfl rfl rfl rfl rfl ?_
                  obtain ⟨y43, hy43, h44⟩ := bi_ok h42
                  refine ge_callPg rfl (callable Tryd.func47 rfl rfl) (c_cmp_Or_int hy43) rfl rfl rfl rfl rfl rfl ?_
                  refine go_E hΓ 3 rfl ?_
                  refine ge_fin ?_
                  obtain rfl := Option.some.inj h44
                  exact ⟨⟨rfl, rfl, rfl, rfl, rfl, trivial⟩, [], rfl, .inl rfl⟩
                · have h45 := cF hq32 hb
                  refine go_E hΓ 23 rfl ?_
                  refine ge_fin ?_
                  obtain rfl := Option.some.inj h45
                  exact ⟨⟨rfl, rfl, rfl, rfl, rfl, trivial⟩, [], rfl, .inl rfl⟩
              · refine go hΓ 1 rfl ?_
                refine j_cond rfl (fun hb => ?_) (fun hb => ?_)
                · have h46 := cT h33 hb
                  refine go hΓ 9 rfl ?_
                  obtain ⟨v47, hv47, h48⟩ := bi_ok h46
                  obtain rfl := Option.some.inj h48
                  obtain rfl := hout12 _ rfl
                  obtain rfl := Option.some.inj h7
                  refine go hΓ 4 rfl ?_
                  obtain rfl := Option.some.inj hv47
                  exact fin_pure hΓ (.inr rfl) rfl rfl
                · have h49 := cF h33 hb
                  refine go hΓ 8 rfl ?_
                  obtain rfl := Option.some.inj h49
                  exact ⟨_, rfl, ⟨⟨rfl, rfl, rfl, get_eq rfl (w64_succ (Nat.lt_of_lt_of_le hlt hb9)), trivial⟩, [_], rfl, .inr ⟨HB.mk rfl, FB.mk rfl, (Nat.le_of_ble_eq_true rfl)⟩⟩⟩
      · subst hgo
        refine go hΓ 6 rfl ?_
        refine j_condF rfl (decide_eq_false (Int.lt_irrefl _)) ?_
        refine go hΓ 4 rfl ?_
        exact ⟨_, rfl, ⟨trivial, [], rfl, .inl rfl⟩⟩
    · intro a8 ha
      subst ha
      replace h7 := goI_l h7
      refine go hΓ 7 rfl ?_
      obtain rfl := Option.some.inj h7
      exact fin_pure hΓ (.inr rfl) rfl rfl

theorem c_route_gainFault {gain : Int} {r : Int} (h : m_route_gainFault gain = some r) : Pure Tryd.prog 60 [I gain] (I r) := by
  refine Pure.enter (Fr.of 0 _) Tryd.func60 rfl (Fr.of_ok _) rfl rfl ?_
  refine go_in ?_
  unfold m_route_gainFault at h
  obtain ⟨y1, hy1, h2⟩ := bi_ok h
  refine go hΓ 9 rfl ?_
  refine eo_callP (callable Tryd.func52 rfl rfl) (c_kit_Outside hy1) rfl (Nat.le_of_ble_eq_true rfl) rfl rfl rfl rfl rfl ?_
  refine go_ops hΓ 2 rfl ?_
  refine j_cond rfl (fun hb => ?_) (fun hb => ?_)
  · have h3 := cT h2 hb
    refine go hΓ 7 rfl ?_
    obtain rfl := Option.some.inj h3
    exact fin_pure hΓ (.inr rfl) rfl rfl
  · have h4 := cF h2 hb
    refine go hΓ 8 rfl ?_
    obtain rfl := Option.some.inj h4
    exact fin_pure hΓ (.inr rfl) rfl rfl

theorem c_slices_Compact_int_int {k : Nat} {s : List Int} {r : List Int} (h : m_slices_Compact_int_int k s = some r) : EC Tryd.prog 64 [.sl 0 s.length] [.row 3 1 s.length (s.flatMap (eN .i64))] fun g hp' => g = .sl 0 r.length ∧ hp' = [.row 3 1 r.length (r.flatMap (eN .i64))] := by
  refine ec_enter (Fr.of 0 _) Tryd.func64 rfl (Fr.of_ok _) (Nat.le_of_ble_eq_true rfl) fun _ => ?_
  refine go_in ?_
  unfold m_slices_Compact_int_int at h
  refine go hΓ 2 rfl ?_
  refine eo_nilOwn (t := 0) 3 1 rfl (Nat.le_of_ble_eq_true rfl) ?_
  refine go_ops hΓ 10 rfl ?_
  refine j_cond rfl (fun hb => ?_) (fun hb => ?_)
  · have h1 := cT h hb
    refine go hΓ 8 rfl ?_
    obtain rfl := Option.some.inj h1
    exact fin_objs hΓ [_] (.inr rfl) rfl rfl rfl rfl (.inr ⟨HB.mk rfl, rfl⟩)
  · have h2 := cF h hb
    refine go hΓ 8 rfl ?_
    obtain ⟨q6, hq6, h7⟩ := bi_ok h2
    refine j_cutEZ (R := fun a8 => q6 = .inl a8) (fun a8 => [(0, .sl 0 s.length)]) (fun a8 => [.row 3 1 s.length (s.flatMap (eN .i64)), .row 3 1 ([] : List Int).length (([] : List Int).flatMap (eN .i64))]) ?_ ?_
    · refine go hΓ 1 rfl ?_
      refine j_loop hq6 (fun s4 => [(0, .sl 0 s.length), (3, I s4)]) (fun s4 => [.row 3 1 s.length (s.flatMap (eN .i64)), .row 3 1 ([] : List Int).length (([] : List Int).flatMap (eN .i64))]) ⟨⟨rfl, rfl, trivial⟩, [], rfl, .inl rfl⟩ (fun s4 y12 hy10 hout11 => ?_)
      refine go hΓ 9 rfl ?_
      refine j_cond rfl (fun hb => ?_) (fun hb => ?_)
      · have h13 := cT hy10 hb
        refine go hΓ 5 rfl ?_
        refine j_draw hmix (by kernel_rfl) ?_
        obtain ⟨x14, hx14, h15⟩ := bi_ok h13
        have hj16 := getZ_at hx14
        refine go hΓ 2 rfl ?_
        refine gl_o rfl (op_elemRowZ hΓ hx14 rfl rfl rfl rfl rfl rfl) ?_
        refine gl_o rfl (op_loadRowZ hΓ (enc := (eN .i64)) s4.toNat 0 hj16 rfl rfl rfl rfl (fun _ => rfl) (g := I x14) rfl) ?_
        obtain ⟨x17, hx17, h18⟩ := bi_ok h15
        have hj19 := getZ_at hx17
        refine go_draw hΓ 3 rfl ?_
        refine gl_o rfl (op_elemRowZ hΓ hx17 rfl rfl rfl rfl rfl rfl) ?_
        refine gl_o rfl (op_loadRowZ hΓ (enc := (eN .i64)) ((wi (s4 - 1)).toNat) 0 hj19 rfl rfl rfl rfl (fun _ => rfl) (g := I x17) rfl) ?_
        refine go_draw hΓ 3 rfl ?_
        refine j_cond rfl (fun hb => ?_) (fun hb => ?_)
        · have h20 := cT h18 hb
          obtain ⟨z21, hz21, h22⟩ := bi_ok h20
          refine go hΓ 4 rfl ?_
          refine eo_o rfl (op_viewI hΓ hz21 rfl rfl rfl rfl rfl rfl) ?_
          refine go_ops hΓ 9 rfl ?_
          obtain ⟨q26, hq26, h27⟩ := bi_ok h22
          refine j_cutNZ [(0, .sl 0 q26.1.length), (3, I q26.2)] [.row 3 1 q26.1.length (q26.1.flatMap (eN .i64)), .row 3 1 ([] : List Int).length (([] : List Int).flatMap (eN .i64))] ?_ ?_
          · refine go hΓ 1 rfl ?_
            refine j_loop hq26 (fun s24 => [(0, .sl 0 s24.1.length), (3, I s24.2.1), (4, .slo 0 1 s4.toNat z21.length), (5, I s24.2.2)]) (fun s24 => [.row 3 1 s24.1.length (s24.1.flatMap (eN .i64)), .row 3 1 ([] : List Int).length (([] : List Int).flatMap (eN .i64))]) ⟨⟨rfl, rfl, rfl, rfl, trivial⟩, [], rfl, .inl rfl⟩ (fun s24 y32 hy30 hout31 => ?_)
            refine go hΓ 9 rfl ?_
            refine j_cond rfl (fun hb => ?_) (fun hb => ?_)
            · have h33 := cT hy30 hb
              refine go hΓ 5 rfl ?_
              refine j_draw hmix (by kernel_rfl) ?_
              obtain ⟨x34, hx34, h35⟩ := bi_ok h33
              obtain ⟨x36, hx36, h37⟩ := bi_ok h35
              have hj38 : s24.1[(s4.toNat + s24.2.2.toNat)]? = some x36 := hx36
              refine go hΓ 2 rfl ?_
              refine gl_o rfl (op_elemView hΓ hx34 rfl rfl rfl rfl rfl rfl rfl) ?_
              refine gl_o rfl (op_loadRowZ hΓ (enc := (eN .i64)) (s4.toNat + s24.2.2.toNat) 0 hj38 rfl rfl rfl rfl (fun _ => rfl) (g := I x36) rfl) ?_
              obtain ⟨x39, hx39, h40⟩ := bi_ok h37
              obtain ⟨x41, hx41, h42⟩ := bi_ok h40
              have hj43 : s24.1[(s4.toNat + (wi (s24.2.2 - 1)).toNat)]? = some x41 := hx41
              refine go_draw hΓ 3 rfl ?_
              refine gl_o rfl (op_elemView hΓ hx39 rfl rfl rfl rfl rfl rfl rfl) ?_
              refine gl_o rfl (op_loadRowZ hΓ (enc := (eN .i64)) (s4.toNat + (wi (s24.2.2 - 1)).toNat) 0 hj43 rfl rfl rfl rfl (fun _ => rfl) (g := I x41) rfl) ?_
              refine go_draw hΓ 3 rfl ?_
              refine j_cond rfl (fun hb => ?_) (fun hb => ?_)
              · have h44 := cT h42 hb
                obtain ⟨x45, hx45, h46⟩ := bi_ok h44
                obtain ⟨x47, hx47, h48⟩ := bi_ok h46
                have hj49 : s24.1[(s4.toNat + s24.2.2.toNat)]? = some x47 := hx47
                refine go hΓ 6 rfl ?_
                refine eo_o rfl (op_elemView hΓ hx45 rfl rfl rfl rfl rfl rfl rfl) ?_
                refine eo_o rfl (op_loadRowZ hΓ (enc := (eN .i64)) (s4.toNat + s24.2.2.toNat) 0 hj49 rfl rfl rfl rfl (fun _ => rfl) (g := I x47) rfl) ?_
                obtain ⟨x50, hx50, h51⟩ := bi_ok h48
                have hj52 := getZ_at hx50
                refine eo_o rfl (op_elemRowZ hΓ hx50 rfl rfl rfl rfl rfl rfl) ?_
                refine eo_storeRowZ hΓ (enc := (eN .i64)) (z' := x47) s24.2.1.toNat 0 hj52 rfl rfl rfl rfl (fun _ => rfl) rfl rfl rfl rfl rfl rfl (Nat.le_of_ble_eq_true rfl) ?_
                refine eo_hp [.row 3 1 (s24.1.set s24.2.1.toNat x47).length ((s24.1.set s24.2.1.toNat x47).flatMap (eN .i64)), .row 3 1 ([] : List Int).length (([] : List Int).flatMap (eN .i64))] rfl ?_
                refine eo_relen 0 (n' := (s24.1.set s24.2.1.toNat x47).length) rfl List.length_set.symm ?_
                refine go_ops hΓ 14 rfl ?_
                obtain rfl := Option.some.inj h51
                exact ⟨_, rfl, ⟨⟨rfl, rfl, rfl, rfl, trivial⟩, [], rfl, .inl rfl⟩⟩
              · have h53 := cF h42 hb
                refine go hΓ 8 rfl ?_
                obtain rfl := Option.some.inj h53
                exact ⟨_, rfl, ⟨⟨rfl, rfl, rfl, rfl, trivial⟩, [], rfl, .inl rfl⟩⟩
            · have h54 := cF hy30 hb
              refine go hΓ 4 rfl ?_
              obtain rfl := Option.some.inj h54
              obtain rfl := hout31 _ rfl
              exact ⟨⟨rfl, rfl, trivial⟩, [], rfl, .inl rfl⟩
          · obtain ⟨z55, hz55, h56⟩ := bi_ok h27
            refine go hΓ 5 rfl ?_
            refine eo_o rfl (op_viewI hΓ hz55 rfl rfl rfl rfl rfl rfl) ?_
            refine eo_s0 (Nat.le_of_ble_eq_true rfl) (ops_clearT hΓ (enc := (eN .i64)) (a := q26.2) hz55 rfl rfl rfl rfl rfl rfl rfl rfl rfl rfl (fun _ => rfl)) ?_
            refine go_ops hΓ 6 rfl ?_
            refine eo_subCut hΓ hz55 rfl rfl rfl rfl rfl rfl rfl rfl ?_
            refine go_ops hΓ 6 rfl ?_
            obtain ⟨v57, hv57, h58⟩ := bi_ok h56
            obtain rfl := Option.some.inj h58
            obtain rfl := hout11 _ rfl
            obtain rfl := Option.some.inj h7
            refine go hΓ 4 rfl ?_
            obtain rfl := Option.some.inj hv57
            exact fin_objs hΓ [_] (.inr rfl) rfl rfl rfl rfl (.inr ⟨HB.mk rfl, rfl⟩)
        · have h59 := cF h18 hb
          refine go hΓ 8 rfl ?_
          obtain rfl := Option.some.inj h59
          exact ⟨_, rfl, ⟨⟨rfl, rfl, trivial⟩, [], rfl, .inl rfl⟩⟩
      · have h60 := cF hy10 hb
        refine go hΓ 4 rfl ?_
        obtain rfl := Option.some.inj h60
        obtain rfl := hout11 _ rfl
        exact ⟨_, rfl, ⟨⟨rfl, trivial⟩, [], rfl, .inl rfl⟩⟩
    · intro a8 ha
      subst ha
      replace h7 := orI_l h7
      refine go hΓ 8 rfl ?_
      obtain rfl := Option.some.inj h7
      exact fin_objs hΓ [_] (.inr rfl) rfl rfl rfl rfl (.inr ⟨HB.mk rfl, rfl⟩)

theorem c_route_choose {answers : List (Str × Int)} {now : Str} {gain : Int} {r : Str} (h : m_route_choose answers now gain = some r) : EC Tryd.prog 65 [.map 0, S now, I gain] [mOb kS false (eN .i64) answers] fun g hp' => g = S r ∧ hp' = [mOb kS false (eN .i64) answers] := by
  refine ec_enter (Fr.of 0 _) Tryd.func65 rfl (Fr.of_ok _) (Nat.le_of_ble_eq_true rfl) fun _ => ?_
  refine go_in ?_
  unfold m_route_choose at h
  refine go hΓ 14 rfl ?_
  refine eo_range hΓ (kv := kS) (agg := false) (enc := (eN .i64)) answers rfl rfl rfl rfl rfl (Nat.le_of_ble_eq_true rfl) (fun mr1 bs2 cl3 hpm4 hbl5 hbn6 => ?_)
  refine eo_hp [mObS kS false (eN .i64) answers (rawM kS (eN .i64) mr1 bs2 cl3), .iter 0 cl3 []] rfl ?_
  refine go_ops hΓ 2 rfl ?_
  obtain ⟨q12, hq12, h13⟩ := bi_ok h
  refine go hΓ 1 rfl ?_
  refine j_rangeP hq12 hpm4 hbl5 hbn6 (fun s7 => [(0, .map 0), (1, S now), (2, I gain), (7, S s7), (13, .ptr 1 0)]) (fun sn9 s7 => [mObS kS false (eN .i64) answers (rawM kS (eN .i64) mr1 bs2 cl3), .iter 0 cl3 sn9]) ⟨⟨rfl, rfl, rfl, rfl, rfl, trivial⟩, [], rfl, .inl rfl⟩ (fun sn9 s7 hdone14 hstep15 => ?_)
  refine go hΓ 2 rfl ?_
  refine eo_next (kv := kS) (agg := false) (enc := (eN .i64)) answers mr1 bs2 cl3 sn9 [mOb kS false (eN .i64) answers, .dead] rfl rfl rfl rfl rfl (Nat.le_of_ble_eq_true rfl) (fun hdsn9 => ?_) (fun j10 x8 b11 hjsn9 hbsn9 hnsn9 => ?_)
  · have hqsn9 := hdone14 hdsn9
    subst hqsn9
    refine go_ops hΓ 15 rfl ?_
    refine eo_o rfl (op_lookupOk hΓ (kv := kS) (agg := false) (enc := (eN .i64)) answers now (0 : Int) rfl rfl rfl rfl key_str rfl rfl rfl rfl rfl rfl rfl) ?_
    refine go_ops hΓ 11 rfl ?_
    refine o_cut 8 [(1, S now), (7, S q12), (56, B (((mGet answers now).isSome) && (decide ((wi (((mGet answers now).getD 0) - ((mGet answers q12).getD 0)) : Int) < gain))))] [mOb kS false (eN .i64) answers, .dead] ?_ ?_
    · refine eo_gsplit rfl rfl (fun hb => ?_) (fun hb => ?_)
      · refine go_ops hΓ 3 rfl ?_
        refine eo_guard rfl ?_
        refine eo_o rfl (op_lookup hΓ (kv := kS) (agg := false) (enc := (eN .i64)) answers q12 (0 : Int) rfl rfl rfl rfl key_str rfl rfl rfl rfl rfl rfl rfl) ?_
        refine go_ops hΓ 5 rfl ?_
        exact ⟨⟨rfl, rfl, get_b rfl (and_t hb), trivial⟩, [], rfl, .inl rfl⟩
      · refine go_ops hΓ 9 rfl ?_
        exact ⟨⟨rfl, rfl, get_b rfl (and_f hb), trivial⟩, [], rfl, .inl rfl⟩
    · refine go_ops hΓ 2 rfl ?_
      refine j_cond rfl (fun hb => ?_) (fun hb => ?_)
      · have h16 := cT h13 hb
        refine go hΓ 8 rfl ?_
        obtain rfl := Option.some.inj h16
        exact fin_objs hΓ [_] (.inr rfl) rfl rfl rfl rfl (.inr ⟨HB.mk rfl, rfl⟩)
      · have h17 := cF h13 hb
        refine go hΓ 9 rfl ?_
        obtain rfl := Option.some.inj h17
        exact fin_objs hΓ [_] (.inr rfl) rfl rfl rfl rfl (.inr ⟨HB.mk rfl, rfl⟩)
  · obtain ⟨s18, h19⟩ := hstep15 j10 x8 b11 hjsn9 hbsn9 hnsn9
    have hssn9 := h19
    refine go_ops hΓ 10 rfl ?_
    refine eo_o rfl (op_entry (kv := kS) (agg := false) (enc := (eN .i64)) answers mr1 bs2 cl3 sn9 hjsn9 hbsn9 rfl rfl rfl rfl (fun _ => rfl)) ?_
    refine go_ops hΓ 11 rfl ?_
    refine o_cut 6 [(0, .map 0), (1, S now), (2, I gain), (7, S s7), (8, S x8.1), (9, I x8.2), (13, .ptr 1 0), (27, B (((s7 : Str) == []) || (decide ((x8.2 : Int) < ((mGet answers s7).getD 0)))))] [mObS kS false (eN .i64) answers (rawM kS (eN .i64) mr1 bs2 cl3), .iter 0 cl3 (sn9 ++ [b11])] ?_ ?_
    · refine eo_gsplit rfl rfl (fun hb => ?_) (fun hb => ?_)
      · refine go_ops hΓ 7 rfl ?_
        exact ⟨⟨rfl, rfl, rfl, rfl, rfl, rfl, rfl, get_b rfl (or_t hb), trivial⟩, [], rfl, .inl rfl⟩
      · refine go_ops hΓ 3 rfl ?_
        refine eo_guard rfl ?_
        refine eo_o rfl (op_lookup hΓ (kv := kS) (agg := false) (enc := (eN .i64)) answers s7 (0 : Int) rfl rfl rfl rfl key_str rfl rfl rfl rfl rfl rfl rfl) ?_
        refine go_ops hΓ 3 rfl ?_
        exact ⟨⟨rfl, rfl, rfl, rfl, rfl, rfl, rfl, get_b rfl (or_f hb), trivial⟩, [], rfl, .inl rfl⟩
    · refine go_ops hΓ 1 rfl ?_
      refine o_cut 11 [(0, .map 0), (1, S now), (2, I gain), (7, S s7), (8, S x8.1), (13, .ptr 1 0), (39, B ((((s7 : Str) == []) || (decide ((x8.2 : Int) < ((mGet answers s7).getD 0)))) || (((x8.2 : Int) == ((mGet answers s7).getD 0)) && (Op.bytesLess x8.1 s7))))] [mObS kS false (eN .i64) answers (rawM kS (eN .i64) mr1 bs2 cl3), .iter 0 cl3 (sn9 ++ [b11])] ?_ ?_
      · refine eo_gsplit rfl rfl (fun hb => ?_) (fun hb => ?_)
        · refine go_ops hΓ 12 rfl ?_
          exact ⟨⟨rfl, rfl, rfl, rfl, rfl, rfl, get_b rfl (or_t hb), trivial⟩, [], rfl, .inl rfl⟩
        · refine go_ops hΓ 3 rfl ?_
          refine eo_guard rfl ?_
          refine eo_o rfl (op_lookup hΓ (kv := kS) (agg := false) (enc := (eN .i64)) answers s7 (0 : Int) rfl rfl rfl rfl key_str rfl rfl rfl rfl rfl rfl rfl) ?_
          refine go_ops hΓ 2 rfl ?_
          refine o_cut 4 [(0, .map 0), (1, S now), (2, I gain), (7, S s7), (8, S x8.1), (13, .ptr 1 0), (28, B false), (38, B (((x8.2 : Int) == ((mGet answers s7).getD 0)) && (Op.bytesLess x8.1 s7)))] [mObS kS false (eN .i64) answers (rawM kS (eN .i64) mr1 bs2 cl3), .iter 0 cl3 (sn9 ++ [b11])] ?_ ?_
          · refine eo_gsplit rfl rfl (fun hb => ?_) (fun hb => ?_)
            · refine go_ops hΓ 5 rfl ?_
              exact ⟨⟨rfl, rfl, rfl, rfl, rfl, rfl, rfl, get_b rfl (and_t hb), trivial⟩, [], rfl, .inl rfl⟩
            · refine go_ops hΓ 5 rfl ?_
              exact ⟨⟨rfl, rfl, rfl, rfl, rfl, rfl, rfl, get_b rfl (and_f hb), trivial⟩, [], rfl, .inl rfl⟩
          · refine go_ops hΓ 2 rfl ?_
            exact ⟨⟨rfl, rfl, rfl, rfl, rfl, rfl, get_b rfl (or_f hb), trivial⟩, [], rfl, .inl rfl⟩
      · refine go_ops hΓ 2 rfl ?_
        refine j_cond rfl (fun hb => ?_) (fun hb => ?_)
        · have h20 := cT h19 hb
          refine go hΓ 5 rfl ?_
          obtain rfl := Option.some.inj h20
          exact ⟨j10, x8, b11, _, hjsn9, hbsn9, hnsn9, hssn9, ⟨⟨rfl, rfl, rfl, rfl, rfl, trivial⟩, [], rfl, .inl rfl⟩⟩
        · have h21 := cF h19 hb
          refine go hΓ 2 rfl ?_
          obtain rfl := Option.some.inj h21
          exact ⟨j10, x8, b11, _, hjsn9, hbsn9, hnsn9, hssn9, ⟨⟨rfl, rfl, rfl, rfl, rfl, trivial⟩, [], rfl, .inl rfl⟩⟩

theorem c_route_begins {l : List T_api_Turn} {v_at : Int} {who : Str} {r : List T_api_Turn} (h : m_route_begins l v_at who = some r) : EC Tryd.prog 66 [.sl 0 l.length, I v_at, S who] [.row 45 3 l.length (l.flatMap e_api_Turn)] fun g hp' => g = .sl 1 r.length ∧ hp' = [.dead, .row 45 3 r.length (r.flatMap e_api_Turn)] := by
  refine ec_enter (Fr.of 0 _) Tryd.func66 rfl (Fr.of_ok _) (Nat.le_of_ble_eq_true rfl) fun _ => ?_
  refine go_in ?_
  unfold m_route_begins at h
  refine go hΓ 2 rfl ?_
  refine eo_nilOwn (t := 0) 45 3 rfl (Nat.le_of_ble_eq_true rfl) ?_
  refine go_ops hΓ 16 rfl ?_
  obtain ⟨q1, hq1, h2⟩ := bi_ok h
  refine o_cut 7 [(0, .sl 0 l.length), (1, I v_at), (2, S who), (7, I (wi ((l.length : Int) - 1))), (20, B q1)] [.row 45 3 l.length (l.flatMap e_api_Turn), .row 45 3 ([] : List T_api_Turn).length (([] : List T_api_Turn).flatMap e_api_Turn)] ?_ ?_
  · refine eo_gsplit rfl rfl (fun hb => ?_) (fun hb => ?_)
    · have h3 := cT hq1 hb
      obtain ⟨x4, hx4, h5⟩ := bi_ok h3
      have hj6 := getZ_at hx4
      refine go_ops hΓ 2 rfl ?_
      refine eo_guard rfl ?_
      refine eo_o rfl (op_elemRowZ hΓ hx4 rfl rfl rfl rfl rfl rfl) ?_
      refine go_ops hΓ 1 rfl ?_
      refine eo_guard rfl ?_
      refine eo_o rfl (op_loadRowZ hΓ (enc := e_api_Turn) ((wi ((l.length : Int) - 1)).toNat) 2 hj6 rfl rfl rfl rfl (fun _ => rfl) (g := I x4.To) rfl) ?_
      refine go_ops hΓ 3 rfl ?_
      obtain rfl := Option.some.inj h5
      exact ⟨⟨rfl, rfl, rfl, rfl, rfl, trivial⟩, [], rfl, .inl rfl⟩
    · have h7 := cF hq1 hb
      refine go_ops hΓ 8 rfl ?_
      obtain rfl := Option.some.inj h7
      exact ⟨⟨rfl, rfl, rfl, rfl, rfl, trivial⟩, [], rfl, .inl rfl⟩
  · obtain ⟨q8, hq8, h9⟩ := bi_ok h2
    refine go_ops hΓ 2 rfl ?_
    refine j_cutSZ (q := q8) (fun a10 => [(0, .sl 0 a10.length), (1, I v_at), (2, S who)]) (fun a10 => [.row 45 3 a10.length (a10.flatMap e_api_Turn), .row 45 3 ([] : List T_api_Turn).length (([] : List T_api_Turn).flatMap e_api_Turn)]) ?_ ?_
    · refine j_cond rfl (fun hb => ?_) (fun hb => ?_)
      · have h11 := cT hq8 hb
        obtain ⟨x12, hx12, h13⟩ := bi_ok h11
        have hj14 := getZ_at hx12
        refine go hΓ 5 rfl ?_
        refine eo_o rfl (op_elemRowZ hΓ hx12 rfl rfl rfl rfl rfl rfl) ?_
        refine go_ops hΓ 1 rfl ?_
        refine eo_o rfl (op_loadRowZ hΓ (enc := e_api_Turn) ((wi ((l.length : Int) - 1)).toNat) 0 hj14 rfl rfl rfl rfl (fun _ => rfl) (g := S x12.Who) rfl) ?_
        refine go_ops hΓ 4 rfl ?_
        refine j_cond rfl (fun hb => ?_) (fun hb => ?_)
        · have h15 := cT h13 hb
          refine go hΓ 4 rfl ?_
          refine eo_shr 1 [] _ [.row 45 3 l.length (l.flatMap e_api_Turn), .dead] rfl rfl rfl (Nat.le_of_ble_eq_true rfl) ?_
          refine eo_move 0 1 [.dead, .row 45 3 l.length (l.flatMap e_api_Turn)] rfl rfl rfl rfl rfl rfl ?_
          refine go_ops hΓ 4 rfl ?_
          obtain ⟨v16, hv16, h17⟩ := bi_ok h15
          obtain rfl := Option.some.inj h17
          obtain rfl := Option.some.inj h9
          refine go hΓ 2 rfl ?_
          obtain rfl := Option.some.inj hv16
          exact fin_objs hΓ [] (.inr rfl) rfl rfl rfl rfl (.inl rfl)
        · have h18 := cF h13 hb
          obtain ⟨x19, hx19, h20⟩ := bi_ok h18
          have hj21 := getZ_at hx19
          refine go hΓ 7 rfl ?_
          refine eo_o rfl (op_elemRowZ hΓ hx19 rfl rfl rfl rfl rfl rfl) ?_
          refine go_ops hΓ 1 rfl ?_
          refine eo_storeRowZ hΓ (enc := e_api_Turn) (z' := (⟨x19.Who, x19.From, v_at⟩ : T_api_Turn)) ((wi ((l.length : Int) - 1)).toNat) 2 hj21 rfl rfl rfl rfl (fun _ => rfl) rfl rfl rfl rfl rfl rfl (Nat.le_of_ble_eq_true rfl) ?_
          refine eo_hp [.row 45 3 (l.set ((wi ((l.length : Int) - 1)).toNat) (⟨x19.Who, x19.From, v_at⟩ : T_api_Turn)).length ((l.set ((wi ((l.length : Int) - 1)).toNat) (⟨x19.Who, x19.From, v_at⟩ : T_api_Turn)).flatMap e_api_Turn), .row 45 3 ([] : List T_api_Turn).length (([] : List T_api_Turn).flatMap e_api_Turn)] rfl ?_
          refine eo_relen 0 (n' := (l.set ((wi ((l.length : Int) - 1)).toNat) (⟨x19.Who, x19.From, v_at⟩ : T_api_Turn)).length) rfl List.length_set.symm ?_
          obtain ⟨x22, hx22, h23⟩ := bi_ok h20
          have hj24 := getZ_at hx22
          refine go_ops hΓ 6 rfl ?_
          refine eo_o rfl (op_elemRowZ hΓ hx22 rfl rfl rfl rfl rfl rfl) ?_
          refine go_ops hΓ 1 rfl ?_
          refine eo_o rfl (op_loadRowZ hΓ (enc := e_api_Turn) ((wi ((l.length : Int) - 1)).toNat) 1 hj24 rfl rfl rfl rfl (fun _ => rfl) (g := I x22.From) rfl) ?_
          refine go_ops hΓ 4 rfl ?_
          refine j_cond rfl (fun hb => ?_) (fun hb => ?_)
          · have h25 := cT h23 hb
            obtain ⟨z26, hz26, h27⟩ := bi_ok h25
            refine go hΓ 3 rfl ?_
            refine eo_subRowZ hΓ (enc := e_api_Turn) hz26 rfl rfl rfl rfl rfl rfl rfl rfl (fun _ => rfl) rfl (Nat.le_of_ble_eq_true rfl) ?_
            refine go_ops hΓ 2 rfl ?_
            obtain rfl := Option.some.inj h27
            exact ⟨_, rfl, ⟨⟨rfl, rfl, rfl, trivial⟩, [], rfl, .inl rfl⟩⟩
          · have h28 := cF h23 hb
            refine go hΓ 1 rfl ?_
            obtain rfl := Option.some.inj h28
            exact ⟨_, rfl, ⟨⟨rfl, rfl, rfl, trivial⟩, [], rfl, .inl rfl⟩⟩
      · have h29 := cF hq8 hb
        refine go hΓ 1 rfl ?_
        obtain rfl := Option.some.inj h29
        exact ⟨_, rfl, ⟨⟨rfl, rfl, rfl, trivial⟩, [], rfl, .inl rfl⟩⟩
    · intro a10 ha
      subst ha
      replace h9 := orI_l h9
      refine go hΓ 8 rfl ?_
      refine j_cond rfl (fun hb => ?_) (fun hb => ?_)
      · have h30 := cT h9 hb
        refine go hΓ 4 rfl ?_
        refine eo_shr 1 [] _ [.row 45 3 a10.length (a10.flatMap e_api_Turn), .dead] rfl rfl rfl (Nat.le_of_ble_eq_true rfl) ?_
        refine eo_move 0 1 [.dead, .row 45 3 a10.length (a10.flatMap e_api_Turn)] rfl rfl rfl rfl rfl rfl ?_
        refine go_ops hΓ 4 rfl ?_
        obtain rfl := Option.some.inj h30
        exact fin_objs hΓ [] (.inr rfl) rfl rfl rfl rfl (.inl rfl)
      · have h31 := cF h9 hb
        refine go hΓ 7 rfl ?_
        refine eo_build hΓ (gs := [S who, I v_at, I 345686400]) rfl rfl rfl rfl rfl rfl rfl ?_
        refine eo_litT hΓ (enc := e_api_Turn) [(⟨who, v_at, 345686400⟩ : T_api_Turn)] rfl rfl rfl rfl rfl rfl rfl rfl rfl rfl rfl rfl (Nat.le_of_ble_eq_true rfl) ?_
        obtain ⟨y32, hy32, h33⟩ := bi_ok h31
        refine eo_s (Nat.le_of_ble_eq_true rfl) (nblt.1 rfl) (ops_appendT hΓ (enc := e_api_Turn) (id := 0) (h2 := show Γ 45 = some ⟨_, 3, _, _⟩ from rfl) hy32 rfl rfl rfl rfl rfl rfl rfl rfl (fun _ => rfl) rfl) ?_
        refine go_ops hΓ 1 rfl ?_
        refine eo_shr 1 [] _ [.dead, .dead, .row 45 3 y32.length (y32.flatMap e_api_Turn)] rfl rfl rfl (Nat.le_of_ble_eq_true rfl) ?_
        refine eo_move 2 1 [.dead, .row 45 3 y32.length (y32.flatMap e_api_Turn), .dead] rfl rfl rfl rfl rfl rfl ?_
        refine go_ops hΓ 3 rfl ?_
        obtain rfl := Option.some.inj h33
        exact fin_objs hΓ [_] (.inr rfl) rfl rfl rfl rfl (.inr ⟨HB.mk rfl, rfl⟩)

theorem c_route_Used {k : Nat} {l : List T_api_Sample} {gain : Int} {fresh : Int} {r : (List T_api_Turn) × Int} (h : m_route_Used k l gain fresh = some r) : Pure Tryd.prog 32 [.d (Sl e_api_Sample l), I gain, I fresh] (.tup [.d (Sl e_api_Turn r.1), I r.2]) := by
  refine Pure.enter (Fr.of 0 _) Tryd.func32 rfl (Fr.of_ok _) rfl rfl ?_
  refine go_in ?_
  unfold m_route_Used at h
  obtain ⟨y1, hy1, h2⟩ := bi_ok h
  refine go hΓ 10 rfl ?_
  refine eo_callP (callable Tryd.func34 rfl rfl) (c_route_CheckSamples hy1) rfl (Nat.le_of_ble_eq_true rfl) rfl rfl rfl rfl rfl ?_
  refine go_ops hΓ 9 rfl ?_
  refine j_cond rfl (fun hb => ?_) (fun hb => ?_)
  · have h3 := cT h2 hb
    refine go hΓ 9 rfl ?_
    obtain rfl := Option.some.inj h3
    exact fin_pure hΓ (.inr rfl) rfl rfl
  · have h4 := cF h2 hb
    obtain ⟨y5, hy5, h6⟩ := bi_ok h4
    refine go hΓ 6 rfl ?_
    refine eo_callP (callable Tryd.func60 rfl rfl) (c_route_gainFault hy5) rfl (Nat.le_of_ble_eq_true rfl) rfl rfl rfl rfl rfl ?_
    refine go_ops hΓ 9 rfl ?_
    refine j_cond rfl (fun hb => ?_) (fun hb => ?_)
    · have h7 := cT h6 hb
      refine go hΓ 9 rfl ?_
      obtain rfl := Option.some.inj h7
      exact fin_pure hΓ (.inr rfl) rfl rfl
    · have h8 := cF h6 hb
      obtain ⟨y9, hy9, h10⟩ := bi_ok h8
      refine go hΓ 6 rfl ?_
      refine eo_callP (callable Tryd.func52 rfl rfl) (c_kit_Outside hy9) rfl (Nat.le_of_ble_eq_true rfl) rfl rfl rfl rfl rfl ?_
      refine go_ops hΓ 2 rfl ?_
      refine j_cond rfl (fun hb => ?_) (fun hb => ?_)
      · have h11 := cT h10 hb
        refine go hΓ 8 rfl ?_
        obtain rfl := Option.some.inj h11
        exact fin_pure hΓ (.inr rfl) rfl rfl
      · have h12 := cF h10 hb
        refine go hΓ 4 rfl ?_
        refine eo_nilOwn (t := 0) 3 1 rfl (Nat.le_of_ble_eq_true rfl) ?_
        refine go_ops hΓ 10 rfl ?_
        obtain ⟨q16, hq16, h17⟩ := bi_ok h12
        refine j_bound 0 rfl fun hb19 => ?_
        refine j_cutNZ [(0, .d (Sl e_api_Sample l)), (1, I gain), (2, I fresh), (10, .sl 0 q16.length)] [.row 3 1 q16.length (q16.flatMap (eN .i64))] ?_ ?_
        · refine go hΓ 1 rfl ?_
          refine j_rangeF l hq16 (fun i13 s14 => [(0, .d (Sl e_api_Sample l)), (1, I gain), (2, I fresh), (10, .sl 0 s14.length), (34, .d (Sl e_api_Sample l)), (35, I (l.length : Int)), (36, I (i13 : Int))]) (fun s14 => [.row 3 1 s14.length (s14.flatMap (eN .i64))]) ⟨⟨rfl, rfl, rfl, rfl, rfl, rfl, rfl, trivial⟩, [], rfl, .inl rfl⟩ (fun i13 x15 s14 y23 hx20 hlt hy21 => ?_) (?_)
          · refine go hΓ 6 rfl ?_
            refine j_condT rfl (decide_eq_true (Int.ofNat_lt.2 hlt)) ?_
            refine go hΓ 6 rfl ?_
            refine eo_o rfl (op_elemZ hΓ (enc := e_api_Sample) (getZ_nat hx20) rfl rfl rfl rfl rfl (fun _ => rfl)) ?_
            refine go_ops hΓ 1 rfl ?_
            refine eo_alloc hΓ rfl rfl rfl (Nat.le_of_ble_eq_true rfl) ?_
            refine eo_store hΓ rfl rfl rfl rfl rfl rfl rfl rfl (Nat.le_of_ble_eq_true rfl) ?_
            refine eo_hp [.row 3 1 s14.length (s14.flatMap (eN .i64)), .box 92 [I x15.At, S x15.Path, I x15.Millis]] rfl ?_
            refine go_ops hΓ 7 rfl ?_
            refine eo_litT hΓ (enc := (eN .i64)) [x15.At] rfl rfl rfl rfl rfl rfl rfl rfl rfl rfl rfl rfl (Nat.le_of_ble_eq_true rfl) ?_
            obtain ⟨y24, hy24, h25⟩ := bi_ok hy21
            refine eo_appendT hΓ (enc := (eN .i64)) hy24 rfl rfl rfl rfl rfl rfl rfl rfl rfl (fun _ => rfl) rfl rfl rfl rfl ?_
            refine go_ops hΓ 12 rfl ?_
            refine j_cond rfl (fun hb => ?_) (fun hb => ?_)
            · have h26 := cT h25 hb
              refine go hΓ 6 rfl ?_
              refine eo_litT hΓ (enc := (eN .i64)) [wi (x15.At + fresh)] rfl rfl rfl rfl rfl rfl rfl rfl rfl rfl rfl rfl (Nat.le_of_ble_eq_true rfl) ?_
              obtain ⟨y27, hy27, h28⟩ := bi_ok h26
              refine eo_appendT hΓ (enc := (eN .i64)) hy27 rfl rfl rfl rfl rfl rfl rfl rfl rfl (fun _ => rfl) rfl rfl rfl rfl ?_
              refine go_ops hΓ 8 rfl ?_
              obtain rfl := Option.some.inj h28
              exact ⟨⟨rfl, rfl, rfl, rfl, rfl, rfl, get_eq rfl (w64_succ (Nat.lt_of_lt_of_le hlt hb19)), trivial⟩, [_], rfl, .inr ⟨HB.mk rfl, FB.mk rfl, (Nat.le_of_ble_eq_true rfl)⟩⟩
            · have h29 := cF h25 hb
              refine go hΓ 7 rfl ?_
              obtain rfl := Option.some.inj h29
              exact ⟨⟨rfl, rfl, rfl, rfl, rfl, rfl, get_eq rfl (w64_succ (Nat.lt_of_lt_of_le hlt hb19)), trivial⟩, [_], rfl, .inr ⟨HB.mk rfl, FB.mk rfl, (Nat.le_of_ble_eq_true rfl)⟩⟩
          · refine go hΓ 6 rfl ?_
            refine j_condF rfl (decide_eq_false (Int.lt_irrefl _)) ?_
            refine go hΓ 4 rfl ?_
            exact ⟨⟨rfl, rfl, rfl, rfl, trivial⟩, [], rfl, .inl rfl⟩
        · obtain ⟨y30, hy30, h31⟩ := bi_ok h17
          refine go hΓ 4 rfl ?_
          refine eo_callF [0] (.tup []) [.row 3 1 y30.length (y30.flatMap (eN .i64))] (callable Tryd.func63 rfl rfl) (c_slices_SortI hy30) rfl (Nat.le_of_ble_eq_true rfl) rfl rfl rfl rfl rfl rfl rfl rfl rfl rfl ?_
          obtain ⟨hg33, h32⟩ := gd_ok h31
          refine eo_relen 10 rfl (of_decide_eq_true hg33).symm ?_
          refine go_ops hΓ 4 rfl ?_
          refine eo_s (Nat.le_of_ble_eq_true rfl) (nblt.1 rfl) (ops_makeMap true) ?_
          refine eo_hp [.row 3 1 y30.length (y30.flatMap (eN .i64)), mOb kS true e_api_Sample ([] : List (Str × T_api_Sample))] rfl ?_
          refine go_ops hΓ 5 rfl ?_
          refine eo_nilOwn (t := 0) 45 3 rfl (Nat.le_of_ble_eq_true rfl) ?_
          obtain ⟨y34, hy34, h35⟩ := bi_ok h32
          refine go_ops hΓ 12 rfl ?_
          refine eo_callF [0] (.sl 0 y34.length) [.row 3 1 y34.length (y34.flatMap (eN .i64)), mOb kS true e_api_Sample ([] : List (Str × T_api_Sample)), .row 45 3 ([] : List T_api_Turn).length (([] : List T_api_Turn).flatMap e_api_Turn)] (callable Tryd.func64 rfl rfl) (c_slices_Compact_int_int hy34) rfl (Nat.le_of_ble_eq_true rfl) rfl rfl rfl rfl rfl rfl rfl rfl rfl rfl ?_
          refine go_ops hΓ 4 rfl ?_
          obtain ⟨q39, hq39, h40⟩ := bi_ok h35
          obtain ⟨hb42, h43⟩ := gd_ok hq39
          replace hb42 := of_decide_eq_true hb42
          refine j_cutNZ [(14, .sl 2 q39.2.1.length)] [.row 3 1 y34.length (y34.flatMap (eN .i64)), mOb kS true e_api_Sample q39.1, .row 45 3 q39.2.1.length (q39.2.1.flatMap e_api_Turn)] ?_ ?_
          · refine go hΓ 1 rfl ?_
            refine j_rangeG h43 (fun i36 s37 => [(0, .d (Sl e_api_Sample l)), (1, I gain), (2, I fresh), (13, .map 1), (14, .sl 2 s37.2.1.length), (15, S s37.2.2.1), (16, I s37.2.2.2), (62, .sl 0 y34.length), (63, I (y34.length : Int)), (64, I (i36 : Int))]) (fun s37 => [.row 3 1 y34.length (y34.flatMap (eN .i64)), mOb kS true e_api_Sample s37.1, .row 45 3 s37.2.1.length (s37.2.1.flatMap e_api_Turn)]) ⟨⟨rfl, rfl, rfl, rfl, rfl, rfl, rfl, rfl, rfl, rfl, trivial⟩, [], rfl, .inl rfl⟩ (fun i36 s37 y47 hlt hy45 => ?_) (fun hge => ?_)
            · refine go hΓ 6 rfl ?_
              refine j_condT rfl (decide_eq_true hlt) ?_
              obtain ⟨x48, hx48, h49⟩ := bi_ok hy45
              have hj50 := getZ_at hx48
              refine go hΓ 6 rfl ?_
              refine eo_o rfl (op_elemRowZ hΓ hx48 rfl rfl rfl rfl rfl rfl) ?_
              refine eo_o rfl (op_loadRowZ hΓ (enc := (eN .i64)) ((i36 : Int).toNat) 0 hj50 rfl rfl rfl rfl (fun _ => rfl) (g := I x48) rfl) ?_
              refine go_ops hΓ 4 rfl ?_
              obtain ⟨q54, hq54, h55⟩ := bi_ok h49
              refine j_cutNZ [(0, .d (Sl e_api_Sample l)), (1, I gain), (2, I fresh), (13, .map 1), (14, .sl 2 s37.2.1.length), (15, S s37.2.2.1), (16, I q54.2), (18, I x48), (62, .sl 0 y34.length), (63, I (y34.length : Int)), (64, I (i36 : Int))] [.row 3 1 y34.length (y34.flatMap (eN .i64)), mOb kS true e_api_Sample q54.1, .row 45 3 s37.2.1.length (s37.2.1.flatMap e_api_Turn)] ?_ ?_
              · refine go hΓ 1 rfl ?_
                refine j_loop hq54 (fun s52 => [(0, .d (Sl e_api_Sample l)), (1, I gain), (2, I fresh), (13, .map 1), (14, .sl 2 s37.2.1.length), (15, S s37.2.2.1), (16, I s52.2), (18, I x48), (62, .sl 0 y34.length), (63, I (y34.length : Int)), (64, I (i36 : Int))]) (fun s52 => [.row 3 1 y34.length (y34.flatMap (eN .i64)), mOb kS true e_api_Sample s52.1, .row 45 3 s37.2.1.length (s37.2.1.flatMap e_api_Turn)]) ⟨⟨rfl, rfl, rfl, rfl, rfl, rfl, rfl, rfl, rfl, rfl, rfl, trivial⟩, [], rfl, .inl rfl⟩ (fun s52 y60 hy58 hout59 => ?_)
                refine go hΓ 8 rfl ?_
                obtain ⟨q61, hq61, h62⟩ := bi_ok hy58
                refine o_cut 8 [(0, .d (Sl e_api_Sample l)), (1, I gain), (2, I fresh), (13, .map 1), (14, .sl 2 s37.2.1.length), (15, S s37.2.2.1), (16, I s52.2), (18, I x48), (62, .sl 0 y34.length), (63, I (y34.length : Int)), (64, I (i36 : Int)), (80, B q61)] [.row 3 1 y34.length (y34.flatMap (eN .i64)), mOb kS true e_api_Sample s52.1, .row 45 3 s37.2.1.length (s37.2.1.flatMap e_api_Turn)] ?_ ?_
                · refine eo_gsplit rfl rfl (fun hb => ?_) (fun hb => ?_)
                  · have h63 := cT hq61 hb
                    obtain ⟨x64, hx64, h65⟩ := bi_ok h63
                    refine go_ops hΓ 2 rfl ?_
                    refine eo_guard rfl ?_
                    refine eo_o rfl (op_elemZ hΓ (enc := e_api_Sample) hx64 rfl rfl rfl rfl rfl (fun _ => rfl)) ?_
                    refine go_ops hΓ 6 rfl ?_
                    obtain rfl := Option.some.inj h65
                    exact ⟨⟨rfl, rfl, rfl, rfl, rfl, rfl, rfl, rfl, rfl, rfl, rfl, rfl, trivial⟩, [], rfl, .inl rfl⟩
                  · have h66 := cF hq61 hb
                    refine go_ops hΓ 9 rfl ?_
                    obtain rfl := Option.some.inj h66
                    exact ⟨⟨rfl, rfl, rfl, rfl, rfl, rfl, rfl, rfl, rfl, rfl, rfl, rfl, trivial⟩, [], rfl, .inl rfl⟩
                · refine go_ops hΓ 2 rfl ?_
                  refine j_cond rfl (fun hb => ?_) (fun hb => ?_)
                  · have h67 := cT h62 hb
                    refine go hΓ 4 rfl ?_
                    refine j_drawE [] [] [10] [] hmix (by kernel_rfl) (by kernel_rfl) trivial (Nat.le_of_ble_eq_true rfl) ?_
                    obtain ⟨x68, hx68, h69⟩ := bi_ok h67
                    refine go_E hΓ 3 rfl ?_
                    refine ge_q rfl (.inl rfl) (fun _ _ => qte_of_qt (qt_p (op_elemZ hΓ (enc := e_api_Sample) hx68 rfl rfl rfl rfl rfl (fun _ => rfl)))) ?_
                    obtain ⟨x70, hx70, h71⟩ := bi_ok h69
                    refine go_E hΓ 4 rfl ?_
                    refine ge_q rfl (.inl rfl) (fun _ _ => qte_of_qt (qt_p (op_elemZ hΓ (enc := e_api_Sample) hx70 rfl rfl rfl rfl rfl (fun _ => rfl)))) ?_
                    refine go_E hΓ 1 rfl ?_
                    refine ge_h0 [.row 3 1 y34.length (y34.flatMap (eN .i64)), mOb kS true e_api_Sample (mSet s52.1 x68.Path x70), .row 45 3 s37.2.1.length (s37.2.1.flatMap e_api_Turn)] rfl rfl (st_st trivial) (qte_u (opu_mapUpdate hΓ (kv := kS) (agg := true) (enc := e_api_Sample) (id := 1) s52.1 x68.Path x70 rfl rfl rfl key_str rfl rfl rfl rfl rfl)) ?_
                    refine ge_fin ?_
                    refine go hΓ 7 rfl ?_
                    obtain rfl := Option.some.inj h71
                    exact ⟨_, rfl, ⟨⟨rfl, rfl, rfl, rfl, rfl, rfl, rfl, rfl, rfl, rfl, rfl, trivial⟩, [], rfl, .inl rfl⟩⟩
                  · have h72 := cF h62 hb
                    refine go hΓ 4 rfl ?_
                    obtain rfl := Option.some.inj h72
                    obtain rfl := hout59 _ rfl
                    exact ⟨⟨rfl, rfl, rfl, rfl, rfl, rfl, rfl, rfl, rfl, rfl, rfl, trivial⟩, [], rfl, .inl rfl⟩
              · refine go hΓ 3 rfl ?_
                refine eo_s (Nat.le_of_ble_eq_true rfl) (nblt.1 rfl) (ops_makeMap false) ?_
                refine eo_hp [.row 3 1 y34.length (y34.flatMap (eN .i64)), mOb kS true e_api_Sample q54.1, .row 45 3 s37.2.1.length (s37.2.1.flatMap e_api_Turn), mOb kS false (eN .i64) ([] : List (Str × Int))] rfl ?_
                refine go_ops hΓ 7 rfl ?_
                refine eo_range hΓ (kv := kS) (agg := true) (enc := e_api_Sample) q54.1 rfl rfl rfl rfl rfl (Nat.le_of_ble_eq_true rfl) (fun mr73 bs74 cl75 hpm76 hbl77 hbn78 => ?_)
                refine eo_hp [.row 3 1 y34.length (y34.flatMap (eN .i64)), mObS kS true e_api_Sample q54.1 (rawM kS e_api_Sample mr73 bs74 cl75), .row 45 3 s37.2.1.length (s37.2.1.flatMap e_api_Turn), mOb kS false (eN .i64) ([] : List (Str × Int)), .iter 1 cl75 []] rfl ?_
                refine go_ops hΓ 2 rfl ?_
                obtain ⟨q84, hq84, h85⟩ := bi_ok h55
                refine go hΓ 1 rfl ?_
                refine j_rangeP hq84 hpm76 hbl77 hbn78 (fun s79 => [(0, .d (Sl e_api_Sample l)), (1, I gain), (2, I fresh), (13, .map 1), (14, .sl 2 s37.2.1.length), (15, S s37.2.2.1), (16, I q54.2), (18, I x48), (19, .map 3), (62, .sl 0 y34.length), (63, I (y34.length : Int)), (64, I (i36 : Int)), (95, .ptr 4 0)]) (fun sn81 s79 => [.row 3 1 y34.length (y34.flatMap (eN .i64)), mObS kS true e_api_Sample q54.1 (rawM kS e_api_Sample mr73 bs74 cl75), .row 45 3 s37.2.1.length (s37.2.1.flatMap e_api_Turn), mOb kS false (eN .i64) s79, .iter 1 cl75 sn81]) ⟨⟨rfl, rfl, rfl, rfl, rfl, rfl, rfl, rfl, rfl, rfl, rfl, rfl, rfl, trivial⟩, [], rfl, .inl rfl⟩ (fun sn81 s79 hdone86 hstep87 => ?_)
                refine go hΓ 2 rfl ?_
                refine eo_next (kv := kS) (agg := true) (enc := e_api_Sample) q54.1 mr73 bs74 cl75 sn81 [.row 3 1 y34.length (y34.flatMap (eN .i64)), mOb kS true e_api_Sample q54.1, .row 45 3 s37.2.1.length (s37.2.1.flatMap e_api_Turn), mOb kS false (eN .i64) s79, .dead] rfl rfl rfl rfl rfl (Nat.le_of_ble_eq_true rfl) (fun hdsn81 => ?_) (fun j82 x80 b83 hjsn81 hbsn81 hnsn81 => ?_)
                · have hqsn81 := hdone86 hdsn81
                  subst hqsn81
                  obtain ⟨y88, hy88, h89⟩ := bi_ok h85
                  refine go_ops hΓ 15 rfl ?_
                  refine eo_callF [3] (S y88) [.row 3 1 y34.length (y34.flatMap (eN .i64)), mOb kS true e_api_Sample q54.1, .row 45 3 s37.2.1.length (s37.2.1.flatMap e_api_Turn), mOb kS false (eN .i64) q84, .dead] (callable Tryd.func65 rfl rfl) (c_route_choose hy88) rfl (Nat.le_of_ble_eq_true rfl) rfl rfl rfl rfl rfl rfl rfl rfl rfl rfl ?_
                  obtain ⟨y90, hy90, h91⟩ := bi_ok h89
                  refine go_ops hΓ 7 rfl ?_
                  refine eo_callF [2] (.sl 5 y90.length) [.row 3 1 y34.length (y34.flatMap (eN .i64)), mOb kS true e_api_Sample q54.1, .dead, mOb kS false (eN .i64) q84, .dead, .row 45 3 y90.length (y90.flatMap e_api_Turn)] (callable Tryd.func66 rfl rfl) (c_route_begins hy90) rfl (Nat.le_of_ble_eq_true rfl) rfl rfl rfl rfl rfl rfl rfl rfl rfl rfl ?_
                  refine go_ops hΓ 1 rfl ?_
                  refine eo_move 5 2 [.row 3 1 y34.length (y34.flatMap (eN .i64)), mOb kS true e_api_Sample q54.1, .row 45 3 y90.length (y90.flatMap e_api_Turn), mOb kS false (eN .i64) q84, .dead, .dead] rfl rfl rfl rfl rfl rfl ?_
                  refine go_ops hΓ 7 rfl ?_
                  obtain rfl := Option.some.inj h91
                  exact ⟨⟨rfl, rfl, rfl, rfl, rfl, rfl, rfl, rfl, rfl, get_eq rfl (w64_succ (by omega)), trivial⟩, [_, _, _], rfl, .inr ⟨HB.mk rfl, FB.mk rfl, (Nat.le_of_ble_eq_true rfl)⟩⟩
                · obtain ⟨s92, h93⟩ := hstep87 j82 x80 b83 hjsn81 hbsn81 hnsn81
                  have hssn81 := h93
                  refine go_ops hΓ 10 rfl ?_
                  refine eo_o rfl (op_entry (kv := kS) (agg := true) (enc := e_api_Sample) q54.1 mr73 bs74 cl75 sn81 hjsn81 hbsn81 rfl rfl rfl rfl (fun _ => rfl)) ?_
                  refine go_ops hΓ 2 rfl ?_
                  refine eo_alloc hΓ rfl rfl rfl (Nat.le_of_ble_eq_true rfl) ?_
                  refine go_ops hΓ 1 rfl ?_
                  refine eo_store hΓ rfl rfl rfl rfl rfl rfl rfl rfl (Nat.le_of_ble_eq_true rfl) ?_
                  refine eo_hp [.row 3 1 y34.length (y34.flatMap (eN .i64)), mObS kS true e_api_Sample q54.1 (rawM kS e_api_Sample mr73 bs74 cl75), .row 45 3 s37.2.1.length (s37.2.1.flatMap e_api_Turn), mOb kS false (eN .i64) s79, .iter 1 cl75 (sn81 ++ [b83]), .box 92 [I x80.2.At, S x80.2.Path, I x80.2.Millis]] rfl ?_
                  refine go_ops hΓ 8 rfl ?_
                  refine o_cut 7 [(0, .d (Sl e_api_Sample l)), (1, I gain), (2, I fresh), (13, .map 1), (14, .sl 2 s37.2.1.length), (15, S s37.2.2.1), (16, I q54.2), (18, I x48), (19, .map 3), (20, S x80.1), (21, .ptr 5 0), (62, .sl 0 y34.length), (63, I (y34.length : Int)), (64, I (i36 : Int)), (95, .ptr 4 0), (111, B ((decide ((x80.2.Millis : Int) ≥ 0)) && (decide ((wi (x80.2.At + fresh) : Int) > x48))))] [.row 3 1 y34.length (y34.flatMap (eN .i64)), mObS kS true e_api_Sample q54.1 (rawM kS e_api_Sample mr73 bs74 cl75), .row 45 3 s37.2.1.length (s37.2.1.flatMap e_api_Turn), mOb kS false (eN .i64) s79, .iter 1 cl75 (sn81 ++ [b83]), .box 92 [I x80.2.At, S x80.2.Path, I x80.2.Millis]] ?_ ?_
                  · refine eo_gsplit rfl rfl (fun hb => ?_) (fun hb => ?_)
                    · refine go_ops hΓ 8 rfl ?_
                      exact ⟨⟨rfl, rfl, rfl, rfl, rfl, rfl, rfl, rfl, rfl, rfl, rfl, rfl, rfl, rfl, rfl, get_b rfl (and_t hb), trivial⟩, [], rfl, .inl rfl⟩
                    · refine go_ops hΓ 8 rfl ?_
                      exact ⟨⟨rfl, rfl, rfl, rfl, rfl, rfl, rfl, rfl, rfl, rfl, rfl, rfl, rfl, rfl, rfl, get_b rfl (and_f hb), trivial⟩, [], rfl, .inl rfl⟩
                  · refine go_ops hΓ 2 rfl ?_
                    refine j_cond rfl (fun hb => ?_) (fun hb => ?_)
                    · have h94 := cT h93 hb
                      refine go hΓ 5 rfl ?_
                      refine eo_u (Nat.le_of_ble_eq_true rfl) (opu_mapUpdate hΓ (kv := kS) (agg := false) (enc := (eN .i64)) (id := 3) s79 x80.1 x80.2.Millis rfl rfl rfl key_str rfl rfl rfl rfl rfl) ?_
                      refine eo_hp [.row 3 1 y34.length (y34.flatMap (eN .i64)), mObS kS true e_api_Sample q54.1 (rawM kS e_api_Sample mr73 bs74 cl75), .row 45 3 s37.2.1.length (s37.2.1.flatMap e_api_Turn), mOb kS false (eN .i64) (mSet s79 x80.1 x80.2.Millis), .iter 1 cl75 (sn81 ++ [b83]), .box 92 [I x80.2.At, S x80.2.Path, I x80.2.Millis]] rfl ?_
                      refine go_ops hΓ 2 rfl ?_
                      obtain rfl := Option.some.inj h94
                      exact ⟨j82, x80, b83, _, hjsn81, hbsn81, hnsn81, hssn81, ⟨⟨rfl, rfl, rfl, rfl, rfl, rfl, rfl, rfl, rfl, rfl, rfl, rfl, rfl, trivial⟩, [_], rfl, .inr ⟨HB.mk rfl, FB.mk rfl, (Nat.le_of_ble_eq_true rfl)⟩⟩⟩
                    · have h95 := cF h93 hb
                      refine go hΓ 2 rfl ?_
                      obtain rfl := Option.some.inj h95
                      exact ⟨j82, x80, b83, _, hjsn81, hbsn81, hnsn81, hssn81, ⟨⟨rfl, rfl, rfl, rfl, rfl, rfl, rfl, rfl, rfl, rfl, rfl, rfl, rfl, trivial⟩, [_], rfl, .inr ⟨HB.mk rfl, FB.mk rfl, (Nat.le_of_ble_eq_true rfl)⟩⟩⟩
            · refine go hΓ 6 rfl ?_
              refine j_condF rfl (decide_eq_false hge) ?_
              refine go hΓ 4 rfl ?_
              exact ⟨⟨rfl, trivial⟩, [], rfl, .inl rfl⟩
          · refine go hΓ 5 rfl ?_
            refine eo_shr 2 [6] _ [.row 3 1 y34.length (y34.flatMap (eN .i64)), mOb kS true e_api_Sample q39.1, .dead] rfl rfl rfl (Nat.le_of_ble_eq_true rfl) ?_
            refine go_ops hΓ 4 rfl ?_
            obtain rfl := Option.some.inj h40
            exact fin_pure hΓ (.inr rfl) rfl rfl

theorem c_laneref2_in {n : Int} {low : Int} {high : Int} {r : Bool} (h : m_laneref2_in n low high = some r) : Pure Tryd.prog 72 [I n, I low, I high] (B r) := by
  refine Pure.enter (Fr.of 0 _) Tryd.func72 rfl (Fr.of_ok _) rfl rfl ?_
  refine go_in ?_
  unfold m_laneref2_in at h
  refine go hΓ 11 rfl ?_
  refine o_cut 4 [(6, B false), (14, B ((decide ((low : Int) ≤ n)) && (decide ((n : Int) ≤ high))))] [] ?_ ?_
  · refine eo_gsplit rfl rfl (fun hb => ?_) (fun hb => ?_)
    · refine go_ops hΓ 5 rfl ?_
      exact ⟨⟨rfl, get_b rfl (and_t hb), trivial⟩, [], rfl, .inl rfl⟩
    · refine go_ops hΓ 5 rfl ?_
      exact ⟨⟨rfl, get_b rfl (and_f hb), trivial⟩, [], rfl, .inl rfl⟩
  · refine go_ops hΓ 4 rfl ?_
    obtain rfl := Option.some.inj h
    exact fin_pure hΓ (.inr rfl) rfl rfl

theorem c_laneref2_Moment {v_at : Int} {r : Bool} (h : m_laneref2_Moment v_at = some r) : Pure Tryd.prog 44 [I v_at] (B r) := by
  refine Pure.enter (Fr.of 0 _) Tryd.func44 rfl (Fr.of_ok _) rfl rfl ?_
  refine go_in ?_
  unfold m_laneref2_Moment at h
  obtain ⟨y1, hy1, h2⟩ := bi_ok h
  refine go hΓ 8 rfl ?_
  refine eo_callP (callable Tryd.func72 rfl rfl) (c_laneref2_in hy1) rfl (Nat.le_of_ble_eq_true rfl) rfl rfl rfl rfl rfl ?_
  refine go_ops hΓ 4 rfl ?_
  obtain rfl := Option.some.inj h2
  exact fin_pure hΓ (.inr rfl) rfl rfl

theorem c_laneref2_only {s : Str} {v_some : Str} {r : Bool} (h : m_laneref2_only s v_some = some r) : Pure Tryd.prog 73 [S s, S v_some] (B r) := by
  refine Pure.enter (Fr.of 0 _) Tryd.func73 rfl (Fr.of_ok _) rfl rfl ?_
  refine go_in ?_
  unfold m_laneref2_only at h
  obtain ⟨y1, hy1, h2⟩ := bi_ok h
  refine go hΓ 9 rfl ?_
  refine eo_callP (callable Tryd.func83 rfl rfl) (c_strings_Trim hy1) rfl (Nat.le_of_ble_eq_true rfl) rfl rfl rfl rfl rfl ?_
  refine go_ops hΓ 5 rfl ?_
  obtain rfl := Option.some.inj h2
  exact fin_pure hΓ (.inr rfl) rfl rfl

theorem c_laneref2_Key {s : Str} {r : Bool} (h : m_laneref2_Key s = some r) : Pure Tryd.prog 45 [S s] (B r) := by
  refine Pure.enter (Fr.of 0 _) Tryd.func45 rfl (Fr.of_ok _) rfl rfl ?_
  refine go_in ?_
  unfold m_laneref2_Key at h
  obtain ⟨y1, hy1, h2⟩ := bi_ok h
  refine go hΓ 9 rfl ?_
  refine eo_callP (callable Tryd.func72 rfl rfl) (c_laneref2_in hy1) rfl (Nat.le_of_ble_eq_true rfl) rfl rfl rfl rfl rfl ?_
  refine go_ops hΓ 1 rfl ?_
  obtain ⟨q3, hq3, h4⟩ := bi_ok h2
  refine o_cut 4 [(0, S s), (2, B false), (10, B q3)] [] ?_ ?_
  · refine eo_gsplit rfl rfl (fun hb => ?_) (fun hb => ?_)
    · have h5 := cT hq3 hb
      obtain ⟨z6, hz6, h7⟩ := bi_ok h5
      refine go_ops hΓ 1 rfl ?_
      refine eo_guard rfl ?_
      refine eo_o rfl (op_subZ hΓ hz6 rfl rfl rfl rfl rfl) ?_
      obtain ⟨y8, hy8, h9⟩ := bi_ok h7
      refine eo_guard rfl ?_
      refine eo_callP (callable Tryd.func73 rfl rfl) (c_laneref2_only hy8) rfl (Nat.le_of_ble_eq_true rfl) rfl rfl rfl rfl rfl ?_
      refine go_ops hΓ 2 rfl ?_
      obtain rfl := Option.some.inj h9
      exact ⟨⟨rfl, rfl, rfl, trivial⟩, [], rfl, .inl rfl⟩
    · have h10 := cF hq3 hb
      refine go_ops hΓ 5 rfl ?_
      obtain rfl := Option.some.inj h10
      exact ⟨⟨rfl, rfl, rfl, trivial⟩, [], rfl, .inl rfl⟩
  · refine go_ops hΓ 1 rfl ?_
    obtain ⟨q11, hq11, h12⟩ := bi_ok h4
    refine o_cut 3 [(2, B false), (14, B q11)] [] ?_ ?_
    · refine eo_gsplit rfl rfl (fun hb => ?_) (fun hb => ?_)
      · have h13 := cT hq11 hb
        obtain ⟨y14, hy14, h15⟩ := bi_ok h13
        refine go_ops hΓ 1 rfl ?_
        refine eo_guard rfl ?_
        refine eo_callP (callable Tryd.func73 rfl rfl) (c_laneref2_only hy14) rfl (Nat.le_of_ble_eq_true rfl) rfl rfl rfl rfl rfl ?_
        refine go_ops hΓ 2 rfl ?_
        obtain rfl := Option.some.inj h15
        exact ⟨⟨rfl, rfl, trivial⟩, [], rfl, .inl rfl⟩
      · have h16 := cF hq11 hb
        refine go_ops hΓ 4 rfl ?_
        obtain rfl := Option.some.inj h16
        exact ⟨⟨rfl, rfl, trivial⟩, [], rfl, .inl rfl⟩
    · refine go_ops hΓ 4 rfl ?_
      obtain rfl := Option.some.inj h12
      exact fin_pure hΓ (.inr rfl) rfl rfl

theorem c_laneref1_in {n : Int} {low : Int} {high : Int} {r : Bool} (h : m_laneref1_in n low high = some r) : Pure Tryd.prog 46 [I n, I low, I high] (B r) := by
  refine Pure.enter (Fr.of 0 _) Tryd.func46 rfl (Fr.of_ok _) rfl rfl ?_
  refine go_in ?_
  unfold m_laneref1_in at h
  refine go hΓ 11 rfl ?_
  refine o_cut 4 [(6, B false), (14, B ((decide ((low : Int) ≤ n)) && (decide ((n : Int) ≤ high))))] [] ?_ ?_
  · refine eo_gsplit rfl rfl (fun hb => ?_) (fun hb => ?_)
    · refine go_ops hΓ 5 rfl ?_
      exact ⟨⟨rfl, get_b rfl (and_t hb), trivial⟩, [], rfl, .inl rfl⟩
    · refine go_ops hΓ 5 rfl ?_
      exact ⟨⟨rfl, get_b rfl (and_f hb), trivial⟩, [], rfl, .inl rfl⟩
  · refine go_ops hΓ 4 rfl ?_
    obtain rfl := Option.some.inj h
    exact fin_pure hΓ (.inr rfl) rfl rfl

theorem c_laneref1_SamplesFault {l : List T_api_Sample} {r : Int} (h : m_laneref1_SamplesFault l = some r) : Pure Tryd.prog 33 [.d (Sl e_api_Sample l)] (I r) := by
  refine Pure.enter (Fr.of 0 _) Tryd.func33 rfl (Fr.of_ok _) rfl rfl ?_
  refine go_in ?_
  unfold m_laneref1_SamplesFault at h
  refine go hΓ 13 rfl ?_
  refine j_cond rfl (fun hb => ?_) (fun hb => ?_)
  · have h1 := cT h hb
    refine go hΓ 7 rfl ?_
    obtain rfl := Option.some.inj h1
    exact fin_pure hΓ (.inr rfl) rfl rfl
  · have h2 := cF h hb
    refine go hΓ 10 rfl ?_
    obtain ⟨q6, hq6, h7⟩ := bi_ok h2
    refine j_bound 0 rfl fun hb9 => ?_
    refine j_cutEZ (R := fun a8 => q6 = .go a8) (fun a8 => []) (fun a8 => []) ?_ ?_
    · refine go hΓ 1 rfl ?_
      refine j_range l hq6 (fun i3 s4 => [(0, .d (Sl e_api_Sample l)), (8, .d (Sl e_api_Sample l)), (9, I (l.length : Int)), (10, I (i3 : Int))]) (fun s4 => []) ⟨⟨rfl, rfl, rfl, rfl, trivial⟩, [], rfl, .inl rfl⟩ (fun i3 x5 s4 y13 hx10 hlt hy11 hout12 => ?_) (fun s4 hgo => ?_)
      · refine go hΓ 6 rfl ?_
        refine j_condT rfl (decide_eq_true (Int.ofNat_lt.2 hlt)) ?_
        refine go hΓ 7 rfl ?_
        refine eo_o rfl (op_elemZ hΓ (enc := e_api_Sample) (getZ_nat hx10) rfl rfl rfl rfl rfl (fun _ => rfl)) ?_
        refine go_ops hΓ 1 rfl ?_
        refine eo_alloc hΓ rfl rfl rfl (Nat.le_of_ble_eq_true rfl) ?_
        refine go_ops hΓ 1 rfl ?_
        refine eo_store hΓ rfl rfl rfl rfl rfl rfl rfl rfl (Nat.le_of_ble_eq_true rfl) ?_
        refine eo_hp [.box 92 [I x5.At, S x5.Path, I x5.Millis]] rfl ?_
        obtain ⟨y14, hy14, h15⟩ := bi_ok hy11
        refine go_ops hΓ 7 rfl ?_
        refine eo_callP (callable Tryd.func44 rfl rfl) (c_laneref2_Moment hy14) rfl (Nat.le_of_ble_eq_true rfl) rfl rfl rfl rfl rfl ?_
        refine go_ops hΓ 4 rfl ?_
        refine j_cond rfl (fun hb => ?_) (fun hb => ?_)
        · have h16 := cT h15 hb
          refine go hΓ 9 rfl ?_
          obtain ⟨v17, hv17, h18⟩ := bi_ok h16
          obtain rfl := Option.some.inj h18
          obtain rfl := hout12 _ rfl
          obtain rfl := Option.some.inj h7
          refine go hΓ 4 rfl ?_
          obtain rfl := Option.some.inj hv17
          exact fin_pure hΓ (.inr rfl) rfl rfl
        · have h19 := cF h15 hb
          obtain ⟨y20, hy20, h21⟩ := bi_ok h19
          refine go hΓ 4 rfl ?_
          refine eo_callP (callable Tryd.func45 rfl rfl) (c_laneref2_Key hy20) rfl (Nat.le_of_ble_eq_true rfl) rfl rfl rfl rfl rfl ?_
          refine go_ops hΓ 4 rfl ?_
          refine j_cond rfl (fun hb => ?_) (fun hb => ?_)
          · have h22 := cT h21 hb
            refine go hΓ 9 rfl ?_
            obtain ⟨v23, hv23, h24⟩ := bi_ok h22
            obtain rfl := Option.some.inj h24
            obtain rfl := hout12 _ rfl
            obtain rfl := Option.some.inj h7
            refine go hΓ 4 rfl ?_
            obtain rfl := Option.some.inj hv23
            exact fin_pure hΓ (.inr rfl) rfl rfl
          · have h25 := cF h21 hb
            obtain ⟨y26, hy26, h27⟩ := bi_ok h25
            refine go hΓ 4 rfl ?_
            refine eo_callP (callable Tryd.func46 rfl rfl) (c_laneref1_in hy26) rfl (Nat.le_of_ble_eq_true rfl) rfl rfl rfl rfl rfl ?_
            refine go_ops hΓ 4 rfl ?_
            refine j_cond rfl (fun hb => ?_) (fun hb => ?_)
            · have h28 := cT h27 hb
              refine go hΓ 9 rfl ?_
              obtain ⟨v29, hv29, h30⟩ := bi_ok h28
              obtain rfl := Option.some.inj h30
              obtain rfl := hout12 _ rfl
              obtain rfl := Option.some.inj h7
              refine go hΓ 4 rfl ?_
              obtain rfl := Option.some.inj hv29
              exact fin_pure hΓ (.inr rfl) rfl rfl
            · have h31 := cF h27 hb
              obtain ⟨q32, hq32, h33⟩ := bi_ok h31
              refine go hΓ 1 rfl ?_
              refine j_cutNZ [(0, .d (Sl e_api_Sample l)), (8, .d (Sl e_api_Sample l)), (9, I (l.length : Int)), (10, I (i3 : Int)), (30, B q32)] [.box 92 [I x5.At, S x5.Path, I x5.Millis]] ?_ ?_
              · refine j_drawE [.box 92 [I x5.At, S x5.Path, I x5.Millis]] [10, 19] [] [] hmix (by kernel_rfl) (by kernel_rfl) ⟨rfl, trivial⟩ (Nat.le_of_ble_eq_true rfl) ?_
                refine go_E hΓ 3 rfl ?_
                refine ge_gsplit rfl rfl (fun hb => ?_) (fun hb => ?_)
                · have h34 := cT hq32 hb
                  obtain ⟨x35, hx35, h36⟩ := bi_ok h34
                  refine go_E hΓ 3 rfl ?_
                  refine ge_q rfl (.inr ⟨_, _, rfl, rfl⟩) (fun _ _ => qte_of_qt (qt_p (op_elemZ hΓ (enc := e_api_Sample) hx35 rfl rfl rfl rfl rfl (fun _ => rfl)))) ?_
                  obtain ⟨y37, hy37, h38⟩ := bi_ok h36
                  refine go_E hΓ 4 rfl ?_
                  refine ge_callPg rfl (callable Tryd.func48 rfl rfl) (c_cmp_Compare_int hy37) rfl rfl rfl rfl rfl rfl ?_
                  obtain ⟨x39, hx39, h40⟩ := bi_ok h38
                  refine go_E hΓ 3 rfl ?_
                  refine ge_q rfl (.inr ⟨_, _, rfl, rfl⟩) (fun _ _ => qte_of_qt (qt_p (op_elemZ hΓ (enc := e_api_Sample) hx39 rfl rfl rfl rfl rfl (fun _ => rfl)))) ?_
                  obtain ⟨y41, hy41, h42⟩ := bi_ok h40
                  refine go_E hΓ 4 rfl ?_
                  refine ge_callPg rfl (callable Tryd.func49 rfl rfl) (c_strings_Compare hy41) rfl rfl rfl rfl rfl rfl ?_
                  refine ge_litTg hΓ (enc := (eN .i64)) [y37, y41] rfl rfl rfl rfl rfl rfl rfl rfl rfl rfl rfl rfl rfl ?_
                  obtain ⟨y43, hy43, h44⟩ := bi_ok h42
                  refine ge_callPg rfl (callable Tryd.func47 rfl rfl) (c_cmp_Or_int hy43) rfl rfl rfl rfl rfl rfl ?_
                  refine go_E hΓ 3 rfl ?_
                  refine ge_fin ?_
                  obtain rfl := Option.some.inj h44
                  exact ⟨⟨rfl, rfl, rfl, rfl, rfl, trivial⟩, [], rfl, .inl rfl⟩
                · have h45 := cF hq32 hb
                  refine go_E hΓ 23 rfl ?_
                  refine ge_fin ?_
                  obtain rfl := Option.some.inj h45
                  exact ⟨⟨rfl, rfl, rfl, rfl, rfl, trivial⟩, [], rfl, .inl rfl⟩
              · refine go hΓ 1 rfl ?_
                refine j_cond rfl (fun hb => ?_) (fun hb => ?_)
                · have h46 := cT h33 hb
                  refine go hΓ 9 rfl ?_
                  obtain ⟨v47, hv47, h48⟩ := bi_ok h46
                  obtain rfl := Option.some.inj h48
                  obtain rfl := hout12 _ rfl
                  obtain rfl := Option.some.inj h7
                  refine go hΓ 4 rfl ?_
                  obtain rfl := Option.some.inj hv47
                  exact fin_pure hΓ (.inr rfl) rfl rfl
                · have h49 := cF h33 hb
                  refine go hΓ 8 rfl ?_
                  obtain rfl := Option.some.inj h49
                  exact ⟨_, rfl, ⟨⟨rfl, rfl, rfl, get_eq rfl (w64_succ (Nat.lt_of_lt_of_le hlt hb9)), trivial⟩, [_], rfl, .inr ⟨HB.mk rfl, FB.mk rfl, (Nat.le_of_ble_eq_true rfl)⟩⟩⟩
      · subst hgo
        refine go hΓ 6 rfl ?_
        refine j_condF rfl (decide_eq_false (Int.lt_irrefl _)) ?_
        refine go hΓ 4 rfl ?_
        exact ⟨_, rfl, ⟨trivial, [], rfl, .inl rfl⟩⟩
    · intro a8 ha
      subst ha
      replace h7 := goI_l h7
      refine go hΓ 7 rfl ?_
      obtain rfl := Option.some.inj h7
      exact fin_pure hΓ (.inr rfl) rfl rfl

theorem c_laneref1_GainFault {gain : Int} {r : Int} (h : m_laneref1_GainFault gain = some r) : Pure Tryd.prog 15 [I gain] (I r) := by
  refine Pure.enter (Fr.of 0 _) Tryd.func15 rfl (Fr.of_ok _) rfl rfl ?_
  refine go_in ?_
  unfold m_laneref1_GainFault at h
  obtain ⟨y1, hy1, h2⟩ := bi_ok h
  refine go hΓ 9 rfl ?_
  refine eo_callP (callable Tryd.func46 rfl rfl) (c_laneref1_in hy1) rfl (Nat.le_of_ble_eq_true rfl) rfl rfl rfl rfl rfl ?_
  refine go_ops hΓ 3 rfl ?_
  refine j_cond rfl (fun hb => ?_) (fun hb => ?_)
  · have h3 := cT h2 hb
    refine go hΓ 7 rfl ?_
    obtain rfl := Option.some.inj h3
    exact fin_pure hΓ (.inr rfl) rfl rfl
  · have h4 := cF h2 hb
    refine go hΓ 8 rfl ?_
    obtain rfl := Option.some.inj h4
    exact fin_pure hΓ (.inr rfl) rfl rfl

theorem c_laneref1_FreshFault {fresh : Int} {r : Int} (h : m_laneref1_FreshFault fresh = some r) : Pure Tryd.prog 35 [I fresh] (I r) := by
  refine Pure.enter (Fr.of 0 _) Tryd.func35 rfl (Fr.of_ok _) rfl rfl ?_
  refine go_in ?_
  unfold m_laneref1_FreshFault at h
  obtain ⟨y1, hy1, h2⟩ := bi_ok h
  refine go hΓ 9 rfl ?_
  refine eo_callP (callable Tryd.func46 rfl rfl) (c_laneref1_in hy1) rfl (Nat.le_of_ble_eq_true rfl) rfl rfl rfl rfl rfl ?_
  refine go_ops hΓ 3 rfl ?_
  refine j_cond rfl (fun hb => ?_) (fun hb => ?_)
  · have h3 := cT h2 hb
    refine go hΓ 7 rfl ?_
    obtain rfl := Option.some.inj h3
    exact fin_pure hΓ (.inr rfl) rfl rfl
  · have h4 := cF h2 hb
    refine go hΓ 8 rfl ?_
    obtain rfl := Option.some.inj h4
    exact fin_pure hΓ (.inr rfl) rfl rfl

theorem c_cmp_Or_api_Errno {vals : List Int} {r : Int} (h : m_cmp_Or_api_Errno vals = some r) : Pure Tryd.prog 14 [.d (Sl (eN .i64) vals)] (I r) := by
  refine Pure.enter (Fr.of 0 _) Tryd.func14 rfl (Fr.of_ok _) rfl rfl ?_
  refine go_in ?_
  unfold m_cmp_Or_api_Errno at h
  refine go hΓ 18 rfl ?_
  obtain ⟨q4, hq4, h5⟩ := bi_ok h
  refine j_bound 6 rfl fun hb7 => ?_
  refine j_cutEZ (R := fun a6 => q4 = .go a6) (fun a6 => [(3, I 0)]) (fun a6 => []) ?_ ?_
  · refine go hΓ 1 rfl ?_
    refine j_range vals hq4 (fun i1 s2 => [(3, I 0), (6, .d (Sl (eN .i64) vals)), (7, I (vals.length : Int)), (8, I (i1 : Int))]) (fun s2 => []) ⟨⟨rfl, rfl, rfl, rfl, trivial⟩, [], rfl, .inl rfl⟩ (fun i1 x3 s2 y11 hx8 hlt hy9 hout10 => ?_) (fun s2 hgo => ?_)
    · refine go hΓ 6 rfl ?_
      refine j_condT rfl (decide_eq_true (Int.ofNat_lt.2 hlt)) ?_
      refine go hΓ 6 rfl ?_
      refine eo_o rfl (op_elemZ hΓ (enc := (eN .i64)) (getZ_nat hx8) rfl rfl rfl rfl rfl (fun _ => rfl)) ?_
      refine go_ops hΓ 11 rfl ?_
      refine j_cond rfl (fun hb => ?_) (fun hb => ?_)
      · have h12 := cT hy9 hb
        refine go hΓ 9 rfl ?_
        obtain ⟨v13, hv13, h14⟩ := bi_ok h12
        obtain rfl := Option.some.inj h14
        obtain rfl := hout10 _ rfl
        obtain rfl := Option.some.inj h5
        refine go hΓ 4 rfl ?_
        obtain rfl := Option.some.inj hv13
        exact fin_pure hΓ (.inr rfl) rfl rfl
      · have h15 := cF hy9 hb
        refine go hΓ 7 rfl ?_
        obtain rfl := Option.some.inj h15
        exact ⟨_, rfl, ⟨⟨rfl, rfl, rfl, get_eq rfl (w64_succ (Nat.lt_of_lt_of_le hlt hb7)), trivial⟩, [], rfl, .inl rfl⟩⟩
    · subst hgo
      refine go hΓ 6 rfl ?_
      refine j_condF rfl (decide_eq_false (Int.lt_irrefl _)) ?_
      refine go hΓ 4 rfl ?_
      exact ⟨_, rfl, ⟨⟨rfl, trivial⟩, [], rfl, .inl rfl⟩⟩
  · intro a6 ha
    subst ha
    replace h5 := goI_l h5
    refine go hΓ 8 rfl ?_
    obtain rfl := Option.some.inj h5
    exact fin_pure hΓ (.inr rfl) rfl rfl

theorem c_route_CheckLinks {k : Nat} {l : List T_api_Link} {r : Int} (h : m_route_CheckLinks k l = some r) : Pure Tryd.prog 26 [.d (Sl e_api_Link l)] (I r) := by
  refine Pure.enter (Fr.of 0 _) Tryd.func26 rfl (Fr.of_ok _) rfl rfl ?_
  refine go_in ?_
  unfold m_route_CheckLinks at h
  refine go hΓ 13 rfl ?_
  refine j_cond rfl (fun hb => ?_) (fun hb => ?_)
  · have h1 := cT h hb
    refine go hΓ 7 rfl ?_
    obtain rfl := Option.some.inj h1
    exact fin_pure hΓ (.inr rfl) rfl rfl
  · have h2 := cF h hb
    refine go hΓ 10 rfl ?_
    obtain ⟨q6, hq6, h7⟩ := bi_ok h2
    refine j_bound 0 rfl fun hb9 => ?_
    refine j_cutEZ (R := fun a8 => q6 = .go a8) (fun a8 => []) (fun a8 => []) ?_ ?_
    · refine go hΓ 1 rfl ?_
      refine j_range l hq6 (fun i3 s4 => [(0, .d (Sl e_api_Link l)), (8, .d (Sl e_api_Link l)), (9, I (l.length : Int)), (10, I (i3 : Int))]) (fun s4 => []) ⟨⟨rfl, rfl, rfl, rfl, trivial⟩, [], rfl, .inl rfl⟩ (fun i3 x5 s4 y13 hx10 hlt hy11 hout12 => ?_) (fun s4 hgo => ?_)
      · refine go hΓ 6 rfl ?_
        refine j_condT rfl (decide_eq_true (Int.ofNat_lt.2 hlt)) ?_
        refine go hΓ 7 rfl ?_
        refine eo_o rfl (op_elemZ hΓ (enc := e_api_Link) (getZ_nat hx10) rfl rfl rfl rfl rfl (fun _ => rfl)) ?_
        refine go_ops hΓ 1 rfl ?_
        refine eo_alloc hΓ rfl rfl rfl (Nat.le_of_ble_eq_true rfl) ?_
        refine go_ops hΓ 1 rfl ?_
        refine eo_store hΓ rfl rfl rfl rfl rfl rfl rfl rfl (Nat.le_of_ble_eq_true rfl) ?_
        refine eo_hp [.box 80 [S x5.A, S x5.v_B, I x5.Millis]] rfl ?_
        obtain ⟨y14, hy14, h15⟩ := bi_ok hy11
        refine go_ops hΓ 7 rfl ?_
        refine eo_callP (callable Tryd.func51 rfl rfl) (c_kit_IsKey hy14) rfl (Nat.le_of_ble_eq_true rfl) rfl rfl rfl rfl rfl ?_
        refine go_ops hΓ 2 rfl ?_
        obtain ⟨q16, hq16, h17⟩ := bi_ok h15
        refine o_cut 5 [(0, .d (Sl e_api_Link l)), (3, I (i3 : Int)), (4, .ptr 0 0), (8, .d (Sl e_api_Link l)), (9, I (l.length : Int)), (10, I (i3 : Int)), (25, B q16)] [.box 80 [S x5.A, S x5.v_B, I x5.Millis]] ?_ ?_
        · refine eo_gsplit rfl rfl (fun hb => ?_) (fun hb => ?_)
          · have h18 := cT hq16 hb
            refine go_ops hΓ 6 rfl ?_
            obtain rfl := Option.some.inj h18
            exact ⟨⟨rfl, rfl, rfl, rfl, rfl, rfl, rfl, trivial⟩, [], rfl, .inl rfl⟩
          · have h19 := cF hq16 hb
            obtain ⟨y20, hy20, h21⟩ := bi_ok h19
            refine go_ops hΓ 2 rfl ?_
            refine eo_guard rfl ?_
            refine eo_callP (callable Tryd.func51 rfl rfl) (c_kit_IsKey hy20) rfl (Nat.le_of_ble_eq_true rfl) rfl rfl rfl rfl rfl ?_
            refine go_ops hΓ 3 rfl ?_
            obtain rfl := Option.some.inj h21
            exact ⟨⟨rfl, rfl, rfl, rfl, rfl, rfl, rfl, trivial⟩, [], rfl, .inl rfl⟩
        · refine go_ops hΓ 3 rfl ?_
          refine j_cond rfl (fun hb => ?_) (fun hb => ?_)
          · have h22 := cT h17 hb
            refine go hΓ 9 rfl ?_
            obtain ⟨v23, hv23, h24⟩ := bi_ok h22
            obtain rfl := Option.some.inj h24
            obtain rfl := hout12 _ rfl
            obtain rfl := Option.some.inj h7
            refine go hΓ 4 rfl ?_
            obtain rfl := Option.some.inj hv23
            exact fin_pure hΓ (.inr rfl) rfl rfl
          · have h25 := cF h17 hb
            refine go hΓ 10 rfl ?_
            refine j_cond rfl (fun hb => ?_) (fun hb => ?_)
            · have h26 := cT h25 hb
              refine go hΓ 9 rfl ?_
              obtain ⟨v27, hv27, h28⟩ := bi_ok h26
              obtain rfl := Option.some.inj h28
              obtain rfl := hout12 _ rfl
              obtain rfl := Option.some.inj h7
              refine go hΓ 4 rfl ?_
              obtain rfl := Option.some.inj hv27
              exact fin_pure hΓ (.inr rfl) rfl rfl
            · have h29 := cF h25 hb
              obtain ⟨y30, hy30, h31⟩ := bi_ok h29
              refine go hΓ 4 rfl ?_
              refine eo_callP (callable Tryd.func52 rfl rfl) (c_kit_Outside hy30) rfl (Nat.le_of_ble_eq_true rfl) rfl rfl rfl rfl rfl ?_
              refine go_ops hΓ 3 rfl ?_
              refine j_cond rfl (fun hb => ?_) (fun hb => ?_)
              · have h32 := cT h31 hb
                refine go hΓ 9 rfl ?_
                obtain ⟨v33, hv33, h34⟩ := bi_ok h32
                obtain rfl := Option.some.inj h34
                obtain rfl := hout12 _ rfl
                obtain rfl := Option.some.inj h7
                refine go hΓ 4 rfl ?_
                obtain rfl := Option.some.inj hv33
                exact fin_pure hΓ (.inr rfl) rfl rfl
              · have h35 := cF h31 hb
                obtain ⟨q36, hq36, h37⟩ := bi_ok h35
                refine go hΓ 1 rfl ?_
                refine j_cutNZ [(0, .d (Sl e_api_Link l)), (8, .d (Sl e_api_Link l)), (9, I (l.length : Int)), (10, I (i3 : Int)), (36, B q36)] [.box 80 [S x5.A, S x5.v_B, I x5.Millis]] ?_ ?_
                · refine j_drawE [.box 80 [S x5.A, S x5.v_B, I x5.Millis]] [10, 19] [] [] hmix (by kernel_rfl) (by kernel_rfl) ⟨rfl, trivial⟩ (Nat.le_of_ble_eq_true rfl) ?_
                  refine go_E hΓ 3 rfl ?_
                  refine ge_gsplit rfl rfl (fun hb => ?_) (fun hb => ?_)
                  · have h38 := cT hq36 hb
                    obtain ⟨x39, hx39, h40⟩ := bi_ok h38
                    refine go_E hΓ 3 rfl ?_
                    refine ge_q rfl (.inr ⟨_, _, rfl, rfl⟩) (fun _ _ => qte_of_qt (qt_p (op_elemZ hΓ (enc := e_api_Link) hx39 rfl rfl rfl rfl rfl (fun _ => rfl)))) ?_
                    obtain ⟨y41, hy41, h42⟩ := bi_ok h40
                    refine go_E hΓ 4 rfl ?_
                    refine ge_callPg rfl (callable Tryd.func49 rfl rfl) (c_strings_Compare hy41) rfl rfl rfl rfl rfl rfl ?_
                    obtain ⟨x43, hx43, h44⟩ := bi_ok h42
                    refine go_E hΓ 3 rfl ?_
                    refine ge_q rfl (.inr ⟨_, _, rfl, rfl⟩) (fun _ _ => qte_of_qt (qt_p (op_elemZ hΓ (enc := e_api_Link) hx43 rfl rfl rfl rfl rfl (fun _ => rfl)))) ?_
                    obtain ⟨y45, hy45, h46⟩ := bi_ok h44
                    refine go_E hΓ 4 rfl ?_
                    refine ge_callPg rfl (callable Tryd.func49 rfl rfl) (c_strings_Compare hy45) rfl rfl rfl rfl rfl rfl ?_
                    refine ge_litTg hΓ (enc := (eN .i64)) [y41, y45] rfl rfl rfl rfl rfl rfl rfl rfl rfl rfl rfl rfl rfl ?_
                    obtain ⟨y47, hy47, h48⟩ := bi_ok h46
                    refine ge_callPg rfl (callable Tryd.func47 rfl rfl) (c_cmp_Or_int hy47) rfl rfl rfl rfl rfl rfl ?_
                    refine go_E hΓ 3 rfl ?_
                    refine ge_fin ?_
                    obtain rfl := Option.some.inj h48
                    exact ⟨⟨rfl, rfl, rfl, rfl, rfl, trivial⟩, [], rfl, .inl rfl⟩
                  · have h49 := cF hq36 hb
                    refine go_E hΓ 23 rfl ?_
                    refine ge_fin ?_
                    obtain rfl := Option.some.inj h49
                    exact ⟨⟨rfl, rfl, rfl, rfl, rfl, trivial⟩, [], rfl, .inl rfl⟩
                · refine go hΓ 1 rfl ?_
                  refine j_cond rfl (fun hb => ?_) (fun hb => ?_)
                  · have h50 := cT h37 hb
                    refine go hΓ 9 rfl ?_
                    obtain ⟨v51, hv51, h52⟩ := bi_ok h50
                    obtain rfl := Option.some.inj h52
                    obtain rfl := hout12 _ rfl
                    obtain rfl := Option.some.inj h7
                    refine go hΓ 4 rfl ?_
                    obtain rfl := Option.some.inj hv51
                    exact fin_pure hΓ (.inr rfl) rfl rfl
                  · have h53 := cF h37 hb
                    refine go hΓ 8 rfl ?_
                    obtain rfl := Option.some.inj h53
                    exact ⟨_, rfl, ⟨⟨rfl, rfl, rfl, get_eq rfl (w64_succ (Nat.lt_of_lt_of_le hlt hb9)), trivial⟩, [_], rfl, .inr ⟨HB.mk rfl, FB.mk rfl, (Nat.le_of_ble_eq_true rfl)⟩⟩⟩
      · subst hgo
        refine go hΓ 6 rfl ?_
        refine j_condF rfl (decide_eq_false (Int.lt_irrefl _)) ?_
        refine go hΓ 4 rfl ?_
        exact ⟨_, rfl, ⟨trivial, [], rfl, .inl rfl⟩⟩
    · intro a8 ha
      subst ha
      replace h7 := goI_l h7
      refine go hΓ 7 rfl ?_
      obtain rfl := Option.some.inj h7
      exact fin_pure hΓ (.inr rfl) rfl rfl

theorem c_route_stepsOf {l : List T_api_Link} {r : List (Str × (List T_route_step))} (h : m_route_stepsOf l = some r) : EC Tryd.prog 76 [.d (Sl e_api_Link l)] [] fun g hp' => g = .map 0 ∧ hp' = [mOb kS false (eL e_route_step) r] := by
  refine ec_enter (Fr.of 0 _) Tryd.func76 rfl (Fr.of_ok _) (Nat.le_of_ble_eq_true rfl) fun _ => ?_
  refine go_in ?_
  unfold m_route_stepsOf at h
  refine go hΓ 7 rfl ?_
  refine eo_s (Nat.le_of_ble_eq_true rfl) (nblt.1 rfl) (ops_makeMap false) ?_
  refine eo_hp [mOb kS false (eL e_route_step) ([] : List (Str × (List T_route_step)))] rfl ?_
  refine go_ops hΓ 11 rfl ?_
  obtain ⟨q4, hq4, h5⟩ := bi_ok h
  refine j_bound 7 rfl fun hb7 => ?_
  refine j_cutNZ [(3, .map 0)] [mOb kS false (eL e_route_step) q4] ?_ ?_
  · refine go hΓ 1 rfl ?_
    refine j_rangeF l hq4 (fun i1 s2 => [(3, .map 0), (7, .d (Sl e_api_Link l)), (8, I (l.length : Int)), (9, I (i1 : Int))]) (fun s2 => [mOb kS false (eL e_route_step) s2]) ⟨⟨rfl, rfl, rfl, rfl, trivial⟩, [], rfl, .inl rfl⟩ (fun i1 x3 s2 y11 hx8 hlt hy9 => ?_) (?_)
    · refine go hΓ 6 rfl ?_
      refine j_condT rfl (decide_eq_true (Int.ofNat_lt.2 hlt)) ?_
      refine go hΓ 6 rfl ?_
      refine eo_o rfl (op_elemZ hΓ (enc := e_api_Link) (getZ_nat hx8) rfl rfl rfl rfl rfl (fun _ => rfl)) ?_
      refine go_ops hΓ 1 rfl ?_
      refine eo_alloc hΓ rfl rfl rfl (Nat.le_of_ble_eq_true rfl) ?_
      refine eo_store hΓ rfl rfl rfl rfl rfl rfl rfl rfl (Nat.le_of_ble_eq_true rfl) ?_
      refine eo_hp [mOb kS false (eL e_route_step) s2, .box 80 [S x3.A, S x3.v_B, I x3.Millis]] rfl ?_
      refine go_ops hΓ 3 rfl ?_
      refine j_drawE [.dead, .box 80 [S x3.A, S x3.v_B, I x3.Millis]] [2, 5, 8, 10] [6, 13, 14] [] hmix (by kernel_rfl) (by kernel_rfl) ⟨rfl, trivial⟩ (Nat.le_of_ble_eq_true rfl) ?_
      obtain ⟨hg13, h12⟩ := gd_ok hy9
      refine go_E hΓ 6 rfl ?_
      refine ge_h [mOb kS false (eL e_route_step) s2, .box 80 [S x3.A, S x3.v_B, I x3.Millis], .row 112 2 ([] : List T_route_step).length (([] : List T_route_step).flatMap e_route_step)] rfl rfl rfl (st_st ⟨rfl, trivial⟩) (qte_s (ops_nilV 112 2 (op_lookupNil hΓ (kv := kS) (agg := false) (enc := (eL e_route_step)) s2 x3.A rfl rfl rfl rfl key_str rfl rfl rfl rfl hg13))) ?_
      refine go_E hΓ 4 rfl ?_
      refine ge_q rfl (.inl rfl) (fun _ _ => qte_of_qt (qt_p (op_build hΓ (gs := [S x3.v_B, I x3.Millis]) rfl rfl rfl rfl rfl rfl))) ?_
      refine ge_litT hΓ (enc := e_route_step) [(⟨x3.v_B, x3.Millis⟩ : T_route_step)] rfl rfl rfl rfl rfl rfl rfl rfl rfl rfl rfl rfl ?_
      obtain ⟨y14, hy14, h15⟩ := bi_ok h12
      refine ge_h [mOb kS false (eL e_route_step) s2, .box 80 [S x3.A, S x3.v_B, I x3.Millis], .dead, .row 112 2 y14.length (y14.flatMap e_route_step)] rfl rfl rfl (st_st ⟨rfl, trivial⟩) (qte_s (ops_appendT hΓ (enc := e_route_step) (id := 2) (h2 := show Γ 112 = some ⟨_, 2, _, _⟩ from rfl) hy14 rfl rfl rfl rfl rfl rfl rfl rfl (fun _ => rfl) rfl)) ?_
      refine ge_h0 [mOb kS false (eL e_route_step) (mSet s2 x3.A y14), .box 80 [S x3.A, S x3.v_B, I x3.Millis], .dead, .dead] rfl rfl (st_st ⟨rfl, trivial⟩) (qte_u (opu_pre (gh_shr 3 [26] rfl) (opu_mapUpdate hΓ (kv := kS) (agg := false) (enc := (eL e_route_step)) (id := 0) s2 x3.A y14 rfl rfl rfl key_str rfl rfl rfl rfl rfl) (Nat.le_of_ble_eq_true rfl))) ?_
      refine ge_fin ?_
      refine go hΓ 1 rfl ?_
      refine j_drawE [.dead, .box 80 [S x3.A, S x3.v_B, I x3.Millis]] [2, 5, 8, 10] [6, 13, 14] [] hmix (by kernel_rfl) (by kernel_rfl) ⟨rfl, trivial⟩ (Nat.le_of_ble_eq_true rfl) ?_
      obtain ⟨hg17, h16⟩ := gd_ok h15
      refine go_E hΓ 6 rfl ?_
      refine ge_h [mOb kS false (eL e_route_step) (mSet s2 x3.A y14), .box 80 [S x3.A, S x3.v_B, I x3.Millis], .dead, .dead, .row 112 2 ([] : List T_route_step).length (([] : List T_route_step).flatMap e_route_step)] rfl rfl rfl (st_st ⟨rfl, trivial⟩) (qte_s (ops_nilV 112 2 (op_lookupNil hΓ (kv := kS) (agg := false) (enc := (eL e_route_step)) (mSet s2 x3.A y14) x3.v_B rfl rfl rfl rfl key_str rfl rfl rfl rfl hg17))) ?_
      refine go_E hΓ 4 rfl ?_
      refine ge_q rfl (.inl rfl) (fun _ _ => qte_of_qt (qt_p (op_build hΓ (gs := [S x3.A, I x3.Millis]) rfl rfl rfl rfl rfl rfl))) ?_
      refine ge_litT hΓ (enc := e_route_step) [(⟨x3.A, x3.Millis⟩ : T_route_step)] rfl rfl rfl rfl rfl rfl rfl rfl rfl rfl rfl rfl ?_
      obtain ⟨y18, hy18, h19⟩ := bi_ok h16
      refine ge_h [mOb kS false (eL e_route_step) (mSet s2 x3.A y14), .box 80 [S x3.A, S x3.v_B, I x3.Millis], .dead, .dead, .dead, .row 112 2 y18.length (y18.flatMap e_route_step)] rfl rfl rfl (st_st ⟨rfl, trivial⟩) (qte_s (ops_appendT hΓ (enc := e_route_step) (id := 4) (h2 := show Γ 112 = some ⟨_, 2, _, _⟩ from rfl) hy18 rfl rfl rfl rfl rfl rfl rfl rfl (fun _ => rfl) rfl)) ?_
      refine ge_h0 [mOb kS false (eL e_route_step) (mSet (mSet s2 x3.A y14) x3.v_B y18), .box 80 [S x3.A, S x3.v_B, I x3.Millis], .dead, .dead, .dead, .dead] rfl rfl (st_st ⟨rfl, trivial⟩) (qte_u (opu_pre (gh_shr 5 [40] rfl) (opu_mapUpdate hΓ (kv := kS) (agg := false) (enc := (eL e_route_step)) (id := 0) (mSet s2 x3.A y14) x3.v_B y18 rfl rfl rfl key_str rfl rfl rfl rfl rfl) (Nat.le_of_ble_eq_true rfl))) ?_
      refine ge_fin ?_
      refine go hΓ 2 rfl ?_
      refine go hΓ 4 rfl ?_
      obtain rfl := Option.some.inj h19
      exact ⟨⟨rfl, rfl, rfl, get_eq rfl (w64_succ (Nat.lt_of_lt_of_le hlt hb7)), trivial⟩, [_, _, _, _, _], rfl, .inr ⟨HB.mk rfl, FB.mk rfl, (Nat.le_of_ble_eq_true rfl)⟩⟩
    · refine go hΓ 6 rfl ?_
      refine j_condF rfl (decide_eq_false (Int.lt_irrefl _)) ?_
      refine go hΓ 4 rfl ?_
      exact ⟨⟨rfl, trivial⟩, [], rfl, .inl rfl⟩
  · refine go hΓ 8 rfl ?_
    obtain rfl := Option.some.inj h5
    exact fin_objs hΓ [] (.inr rfl) rfl rfl rfl rfl (.inl rfl)

theorem c_route_far_less {a : T_route_far} {b : T_route_far} {r : Bool} (h : m_route_far_less a b = some r) : Pure Tryd.prog 85 [.agg [I a.millis, I a.links], .agg [I b.millis, I b.links]] (B r) := by
  refine Pure.enter (Fr.of 0 _) Tryd.func85 rfl (Fr.of_ok _) rfl rfl ?_
  refine go_in ?_
  unfold m_route_far_less at h
  refine go hΓ 2 rfl ?_
  refine eo_box rfl rfl rfl rfl (Nat.le_of_ble_eq_true rfl) ?_
  refine eo_box rfl rfl rfl rfl (Nat.le_of_ble_eq_true rfl) ?_
  refine go_ops hΓ 11 rfl ?_
  refine o_cut 13 [(4, B false), (23, B ((decide ((a.millis : Int) < b.millis)) || (((a.millis : Int) == b.millis) && (decide ((a.links : Int) < b.links)))))] [.box 108 [I a.millis, I a.links], .box 108 [I b.millis, I b.links]] ?_ ?_
  · refine eo_gsplit rfl rfl (fun hb => ?_) (fun hb => ?_)
    · refine go_ops hΓ 14 rfl ?_
      exact ⟨⟨rfl, get_b rfl (or_t hb), trivial⟩, [], rfl, .inl rfl⟩
    · refine go_ops hΓ 6 rfl ?_
      refine o_cut 6 [(4, B false), (10, B false), (22, B (((a.millis : Int) == b.millis) && (decide ((a.links : Int) < b.links))))] [.box 108 [I a.millis, I a.links], .box 108 [I b.millis, I b.links]] ?_ ?_
      · refine eo_gsplit rfl rfl (fun hb => ?_) (fun hb => ?_)
        · refine go_ops hΓ 7 rfl ?_
          exact ⟨⟨rfl, rfl, get_b rfl (and_t hb), trivial⟩, [], rfl, .inl rfl⟩
        · refine go_ops hΓ 7 rfl ?_
          exact ⟨⟨rfl, rfl, get_b rfl (and_f hb), trivial⟩, [], rfl, .inl rfl⟩
      · refine go_ops hΓ 2 rfl ?_
        exact ⟨⟨rfl, get_b rfl (or_f hb), trivial⟩, [], rfl, .inl rfl⟩
  · refine go_ops hΓ 4 rfl ?_
    obtain rfl := Option.some.inj h
    exact fin_pure hΓ (.inr rfl) rfl rfl

theorem c_route_distances {k : Nat} {steps : List (Str × (List T_route_step))} {v_from : Str} {r : List (Str × T_route_far)} (h : m_route_distances k steps v_from = some r) : EC Tryd.prog 77 [.map 0, S v_from] [mOb kS false (eL e_route_step) steps] fun g hp' => g = .map 1 ∧ hp' = [mOb kS false (eL e_route_step) steps, mOb kS true e_route_far r] := by
  refine ec_enter (Fr.of 0 _) Tryd.func77 rfl (Fr.of_ok _) (Nat.le_of_ble_eq_true rfl) fun _ => ?_
  refine go_in ?_
  unfold m_route_distances at h
  refine go hΓ 7 rfl ?_
  refine eo_s (Nat.le_of_ble_eq_true rfl) (nblt.1 rfl) (ops_makeMap true) ?_
  refine eo_hp [mOb kS false (eL e_route_step) steps, mOb kS true e_route_far ([] : List (Str × T_route_far))] rfl ?_
  refine go_ops hΓ 1 rfl ?_
  refine eo_build hΓ (gs := [I 0, I 0]) rfl rfl rfl rfl rfl rfl rfl ?_
  refine eo_u (Nat.le_of_ble_eq_true rfl) (opu_insert hΓ (kv := kS) (agg := true) (enc := e_route_far) (id := 1) ([] : List (Str × T_route_far)) v_from (⟨0, 0⟩ : T_route_far) rfl rfl rfl key_str rfl rfl rfl rfl rfl) ?_
  refine eo_hp [mOb kS false (eL e_route_step) steps, mOb kS true e_route_far (mSet ([] : List (Str × T_route_far)) v_from (⟨0, 0⟩ : T_route_far))] rfl ?_
  refine go_ops hΓ 6 rfl ?_
  refine eo_s (Nat.le_of_ble_eq_true rfl) (nblt.1 rfl) (ops_makeMap false) ?_
  refine eo_hp [mOb kS false (eL e_route_step) steps, mOb kS true e_route_far (mSet ([] : List (Str × T_route_far)) v_from (⟨0, 0⟩ : T_route_far)), mOb kS false eB ([] : List (Str × Bool))] rfl ?_
  refine go_ops hΓ 3 rfl ?_
  obtain ⟨q4, hq4, h5⟩ := bi_ok h
  refine go hΓ 1 rfl ?_
  refine j_loop hq4 (fun s2 => [(0, .map 0), (5, .map 1), (6, .map 2)]) (fun s2 => [mOb kS false (eL e_route_step) steps, mOb kS true e_route_far s2.1, mOb kS false eB s2.2]) ⟨⟨rfl, rfl, rfl, trivial⟩, [], rfl, .inl rfl⟩ (fun s2 y10 hy8 hout9 => ?_)
  refine go hΓ 11 rfl ?_
  refine eo_range hΓ (kv := kS) (agg := true) (enc := e_route_far) s2.1 rfl rfl rfl rfl rfl (Nat.le_of_ble_eq_true rfl) (fun mr11 bs12 cl13 hpm14 hbl15 hbn16 => ?_)
  refine eo_hp [mOb kS false (eL e_route_step) steps, mObS kS true e_route_far s2.1 (rawM kS e_route_far mr11 bs12 cl13), mOb kS false eB s2.2, .iter 1 cl13 []] rfl ?_
  refine go_ops hΓ 2 rfl ?_
  obtain ⟨q22, hq22, h23⟩ := bi_ok hy8
  refine go hΓ 1 rfl ?_
  refine j_rangeP hq22 hpm14 hbl15 hbn16 (fun s17 => [(0, .map 0), (5, .map 1), (6, .map 2), (7, S s17.1), (8, B s17.2), (22, .ptr 3 0)]) (fun sn19 s17 => [mOb kS false (eL e_route_step) steps, mObS kS true e_route_far s2.1 (rawM kS e_route_far mr11 bs12 cl13), mOb kS false eB s2.2, .iter 1 cl13 sn19]) ⟨⟨rfl, rfl, rfl, rfl, rfl, rfl, trivial⟩, [], rfl, .inl rfl⟩ (fun sn19 s17 hdone24 hstep25 => ?_)
  refine go hΓ 2 rfl ?_
  refine eo_next (kv := kS) (agg := true) (enc := e_route_far) s2.1 mr11 bs12 cl13 sn19 [mOb kS false (eL e_route_step) steps, mOb kS true e_route_far s2.1, mOb kS false eB s2.2, .dead] rfl rfl rfl rfl rfl (Nat.le_of_ble_eq_true rfl) (fun hdsn19 => ?_) (fun j20 x18 b21 hjsn19 hbsn19 hnsn19 => ?_)
  · have hqsn19 := hdone24 hdsn19
    subst hqsn19
    refine go_ops hΓ 17 rfl ?_
    refine j_cond rfl (fun hb => ?_) (fun hb => ?_)
    · have h26 := cT h23 hb
      refine go hΓ 9 rfl ?_
      obtain ⟨v27, hv27, h28⟩ := bi_ok h26
      obtain rfl := Option.some.inj h28
      obtain rfl := hout9 _ rfl
      obtain rfl := Option.some.inj h5
      refine go hΓ 2 rfl ?_
      obtain rfl := Option.some.inj hv27
      exact fin_objs hΓ [_, _] (.inr rfl) rfl rfl rfl rfl (.inr ⟨HB.mk rfl, rfl⟩)
    · have h29 := cF h23 hb
      refine go hΓ 6 rfl ?_
      refine eo_u (Nat.le_of_ble_eq_true rfl) (opu_mapUpdate hΓ (kv := kS) (agg := false) (enc := eB) (id := 2) s2.2 q22.1 true rfl rfl rfl key_str rfl rfl rfl rfl rfl) ?_
      refine eo_hp [mOb kS false (eL e_route_step) steps, mOb kS true e_route_far s2.1, mOb kS false eB (mSet s2.2 q22.1 true), .dead] rfl ?_
      refine go_ops hΓ 6 rfl ?_
      refine eo_o rfl (op_lookup hΓ (kv := kS) (agg := false) (enc := (eL e_route_step)) steps q22.1 ([] : List T_route_step) rfl rfl rfl rfl key_str rfl rfl rfl rfl rfl rfl rfl) ?_
      refine go_ops hΓ 4 rfl ?_
      obtain ⟨q33, hq33, h34⟩ := bi_ok h29
      refine j_bound 51 rfl fun hb36 => ?_
      refine j_cutNZ [(0, .map 0), (5, .map 1), (6, .map 2)] [mOb kS false (eL e_route_step) steps, mOb kS true e_route_far q33, mOb kS false eB (mSet s2.2 q22.1 true), .dead] ?_ ?_
      · refine go hΓ 1 rfl ?_
        refine j_rangeF ((mGet steps q22.1).getD []) hq33 (fun i30 s31 => [(0, .map 0), (5, .map 1), (6, .map 2), (7, S q22.1), (51, .d (Sl e_route_step ((mGet steps q22.1).getD []))), (52, I (((mGet steps q22.1).getD []).length : Int)), (53, I (i30 : Int))]) (fun s31 => [mOb kS false (eL e_route_step) steps, mOb kS true e_route_far s31, mOb kS false eB (mSet s2.2 q22.1 true), .dead]) ⟨⟨rfl, rfl, rfl, rfl, rfl, rfl, rfl, trivial⟩, [], rfl, .inl rfl⟩ (fun i30 x32 s31 y40 hx37 hlt hy38 => ?_) (?_)
        · refine go hΓ 6 rfl ?_
          refine j_condT rfl (decide_eq_true (Int.ofNat_lt.2 hlt)) ?_
          refine go hΓ 6 rfl ?_
          refine eo_o rfl (op_elemZ hΓ (enc := e_route_step) (getZ_nat hx37) rfl rfl rfl rfl rfl (fun _ => rfl)) ?_
          refine go_ops hΓ 1 rfl ?_
          refine eo_alloc hΓ rfl rfl rfl (Nat.le_of_ble_eq_true rfl) ?_
          refine eo_store hΓ rfl rfl rfl rfl rfl rfl rfl rfl (Nat.le_of_ble_eq_true rfl) ?_
          refine eo_hp [mOb kS false (eL e_route_step) steps, mOb kS true e_route_far s31, mOb kS false eB (mSet s2.2 q22.1 true), .dead, .box 112 [S x32.to, I x32.millis]] rfl ?_
          refine go_ops hΓ 6 rfl ?_
          refine eo_o rfl (op_lookup hΓ (kv := kS) (agg := true) (enc := e_route_far) s31 q22.1 ((⟨0, 0⟩ : T_route_far) : T_route_far) rfl rfl rfl rfl key_str rfl rfl rfl rfl rfl rfl rfl) ?_
          refine go_ops hΓ 6 rfl ?_
          refine eo_o rfl (op_lookup hΓ (kv := kS) (agg := true) (enc := e_route_far) s31 q22.1 ((⟨0, 0⟩ : T_route_far) : T_route_far) rfl rfl rfl rfl key_str rfl rfl rfl rfl rfl rfl rfl) ?_
          refine go_ops hΓ 2 rfl ?_
          refine eo_build hΓ (gs := [I (wi ((((mGet s31 q22.1).getD (⟨0, 0⟩ : T_route_far)).millis) + x32.millis)), I (wi ((((mGet s31 q22.1).getD (⟨0, 0⟩ : T_route_far)).links) + 1))]) rfl rfl rfl rfl rfl rfl rfl ?_
          refine eo_alloc hΓ rfl rfl rfl (Nat.le_of_ble_eq_true rfl) ?_
          refine eo_store hΓ rfl rfl rfl rfl rfl rfl rfl rfl (Nat.le_of_ble_eq_true rfl) ?_
          refine eo_hp [mOb kS false (eL e_route_step) steps, mOb kS true e_route_far s31, mOb kS false eB (mSet s2.2 q22.1 true), .dead, .box 112 [S x32.to, I x32.millis], .box 108 [I (wi ((((mGet s31 q22.1).getD (⟨0, 0⟩ : T_route_far)).millis) + x32.millis)), I (wi ((((mGet s31 q22.1).getD (⟨0, 0⟩ : T_route_far)).links) + 1))]] rfl ?_
          refine go_ops hΓ 7 rfl ?_
          refine eo_o rfl (op_lookupOk hΓ (kv := kS) (agg := true) (enc := e_route_far) s31 x32.to ((⟨0, 0⟩ : T_route_far) : T_route_far) rfl rfl rfl rfl key_str rfl rfl rfl rfl rfl rfl rfl) ?_
          refine go_ops hΓ 3 rfl ?_
          refine eo_alloc hΓ rfl rfl rfl (Nat.le_of_ble_eq_true rfl) ?_
          refine eo_store hΓ rfl rfl rfl rfl rfl rfl rfl rfl (Nat.le_of_ble_eq_true rfl) ?_
          refine eo_hp [mOb kS false (eL e_route_step) steps, mOb kS true e_route_far s31, mOb kS false eB (mSet s2.2 q22.1 true), .dead, .box 112 [S x32.to, I x32.millis], .box 108 [I (wi ((((mGet s31 q22.1).getD (⟨0, 0⟩ : T_route_far)).millis) + x32.millis)), I (wi ((((mGet s31 q22.1).getD (⟨0, 0⟩ : T_route_far)).links) + 1))], .box 108 [I (((mGet s31 x32.to).getD (⟨0, 0⟩ : T_route_far)).millis), I (((mGet s31 x32.to).getD (⟨0, 0⟩ : T_route_far)).links)]] rfl ?_
          refine go_ops hΓ 8 rfl ?_
          obtain ⟨q41, hq41, h42⟩ := bi_ok hy38
          refine o_cut 4 [(0, .map 0), (5, .map 1), (6, .map 2), (7, S q22.1), (12, .ptr 4 0), (13, .ptr 5 0), (51, .d (Sl e_route_step ((mGet steps q22.1).getD []))), (52, I (((mGet steps q22.1).getD []).length : Int)), (53, I (i30 : Int)), (83, B q41)] [mOb kS false (eL e_route_step) steps, mOb kS true e_route_far s31, mOb kS false eB (mSet s2.2 q22.1 true), .dead, .box 112 [S x32.to, I x32.millis], .box 108 [I (wi ((((mGet s31 q22.1).getD (⟨0, 0⟩ : T_route_far)).millis) + x32.millis)), I (wi ((((mGet s31 q22.1).getD (⟨0, 0⟩ : T_route_far)).links) + 1))], .box 108 [I (((mGet s31 x32.to).getD (⟨0, 0⟩ : T_route_far)).millis), I (((mGet s31 x32.to).getD (⟨0, 0⟩ : T_route_far)).links)]] ?_ ?_
          · refine eo_gsplit rfl rfl (fun hb => ?_) (fun hb => ?_)
            · have h43 := cT hq41 hb
              refine go_ops hΓ 5 rfl ?_
              obtain rfl := Option.some.inj h43
              exact ⟨⟨rfl, rfl, rfl, rfl, rfl, rfl, rfl, rfl, rfl, rfl, trivial⟩, [], rfl, .inl rfl⟩
            · have h44 := cF hq41 hb
              obtain ⟨y45, hy45, h46⟩ := bi_ok h44
              refine go_ops hΓ 2 rfl ?_
              refine eo_guard rfl ?_
              refine eo_callP (callable Tryd.func85 rfl rfl) (c_route_far_less hy45) rfl (Nat.le_of_ble_eq_true rfl) rfl rfl rfl rfl rfl ?_
              refine go_ops hΓ 2 rfl ?_
              obtain rfl := Option.some.inj h46
              exact ⟨⟨rfl, rfl, rfl, rfl, rfl, rfl, rfl, rfl, rfl, rfl, trivial⟩, [], rfl, .inl rfl⟩
          · refine go_ops hΓ 2 rfl ?_
            refine j_cond rfl (fun hb => ?_) (fun hb => ?_)
            · have h47 := cT h42 hb
              refine go hΓ 5 rfl ?_
              refine eo_u (Nat.le_of_ble_eq_true rfl) (opu_mapUpdate hΓ (kv := kS) (agg := true) (enc := e_route_far) (id := 1) s31 x32.to (⟨wi ((((mGet s31 q22.1).getD (⟨0, 0⟩ : T_route_far)).millis) + x32.millis), wi ((((mGet s31 q22.1).getD (⟨0, 0⟩ : T_route_far)).links) + 1)⟩ : T_route_far) rfl rfl rfl key_str rfl rfl rfl rfl rfl) ?_
              refine eo_hp [mOb kS false (eL e_route_step) steps, mOb kS true e_route_far (mSet s31 x32.to (⟨wi ((((mGet s31 q22.1).getD (⟨0, 0⟩ : T_route_far)).millis) + x32.millis), wi ((((mGet s31 q22.1).getD (⟨0, 0⟩ : T_route_far)).links) + 1)⟩ : T_route_far)), mOb kS false eB (mSet s2.2 q22.1 true), .dead, .box 112 [S x32.to, I x32.millis], .box 108 [I (wi ((((mGet s31 q22.1).getD (⟨0, 0⟩ : T_route_far)).millis) + x32.millis)), I (wi ((((mGet s31 q22.1).getD (⟨0, 0⟩ : T_route_far)).links) + 1))], .box 108 [I (((mGet s31 x32.to).getD (⟨0, 0⟩ : T_route_far)).millis), I (((mGet s31 x32.to).getD (⟨0, 0⟩ : T_route_far)).links)]] rfl ?_
              refine go_ops hΓ 7 rfl ?_
              obtain rfl := Option.some.inj h47
              exact ⟨⟨rfl, rfl, rfl, rfl, rfl, rfl, get_eq rfl (w64_succ (Nat.lt_of_lt_of_le hlt hb36)), trivial⟩, [_, _, _], rfl, .inr ⟨HB.mk rfl, FB.mk rfl, (Nat.le_of_ble_eq_true rfl)⟩⟩
            · have h48 := cF h42 hb
              refine go hΓ 7 rfl ?_
              obtain rfl := Option.some.inj h48
              exact ⟨⟨rfl, rfl, rfl, rfl, rfl, rfl, get_eq rfl (w64_succ (Nat.lt_of_lt_of_le hlt hb36)), trivial⟩, [_, _, _], rfl, .inr ⟨HB.mk rfl, FB.mk rfl, (Nat.le_of_ble_eq_true rfl)⟩⟩
        · refine go hΓ 6 rfl ?_
          refine j_condF rfl (decide_eq_false (Int.lt_irrefl _)) ?_
          refine go hΓ 4 rfl ?_
          exact ⟨⟨rfl, rfl, rfl, trivial⟩, [], rfl, .inl rfl⟩
      · refine go hΓ 1 rfl ?_
        obtain rfl := Option.some.inj h34
        exact ⟨_, rfl, ⟨⟨rfl, rfl, rfl, trivial⟩, [_], rfl, .inr ⟨HB.mk rfl, FB.mk rfl, (Nat.le_of_ble_eq_true rfl)⟩⟩⟩
  · obtain ⟨s49, h50⟩ := hstep25 j20 x18 b21 hjsn19 hbsn19 hnsn19
    have hssn19 := h50
    refine go_ops hΓ 10 rfl ?_
    refine eo_o rfl (op_entry (kv := kS) (agg := true) (enc := e_route_far) s2.1 mr11 bs12 cl13 sn19 hjsn19 hbsn19 rfl rfl rfl rfl (fun _ => rfl)) ?_
    refine go_ops hΓ 2 rfl ?_
    refine eo_alloc hΓ rfl rfl rfl (Nat.le_of_ble_eq_true rfl) ?_
    refine go_ops hΓ 1 rfl ?_
    refine eo_store hΓ rfl rfl rfl rfl rfl rfl rfl rfl (Nat.le_of_ble_eq_true rfl) ?_
    refine eo_hp [mOb kS false (eL e_route_step) steps, mObS kS true e_route_far s2.1 (rawM kS e_route_far mr11 bs12 cl13), mOb kS false eB s2.2, .iter 1 cl13 (sn19 ++ [b21]), .box 108 [I x18.2.millis, I x18.2.links]] rfl ?_
    refine go_ops hΓ 6 rfl ?_
    refine eo_o rfl (op_lookup hΓ (kv := kS) (agg := false) (enc := eB) s2.2 x18.1 (false : Bool) rfl rfl rfl rfl key_str rfl rfl rfl rfl rfl rfl rfl) ?_
    refine go_ops hΓ 2 rfl ?_
    obtain ⟨q51, hq51, h52⟩ := bi_ok h50
    refine o_cut 10 [(0, .map 0), (5, .map 1), (6, .map 2), (7, S s17.1), (8, B s17.2), (9, S x18.1), (22, .ptr 3 0), (42, B q51)] [mOb kS false (eL e_route_step) steps, mObS kS true e_route_far s2.1 (rawM kS e_route_far mr11 bs12 cl13), mOb kS false eB s2.2, .iter 1 cl13 (sn19 ++ [b21]), .box 108 [I x18.2.millis, I x18.2.links]] ?_ ?_
    · refine eo_gsplit rfl rfl (fun hb => ?_) (fun hb => ?_)
      · have h53 := cT hq51 hb
        refine go_ops hΓ 3 rfl ?_
        obtain ⟨q54, hq54, h55⟩ := bi_ok h53
        refine o_cut 6 [(0, .map 0), (5, .map 1), (6, .map 2), (7, S s17.1), (8, B s17.2), (9, S x18.1), (22, .ptr 3 0), (32, B true), (41, B q54)] [mOb kS false (eL e_route_step) steps, mObS kS true e_route_far s2.1 (rawM kS e_route_far mr11 bs12 cl13), mOb kS false eB s2.2, .iter 1 cl13 (sn19 ++ [b21]), .box 108 [I x18.2.millis, I x18.2.links]] ?_ ?_
        · refine eo_gsplit rfl rfl (fun hb => ?_) (fun hb => ?_)
          · have h56 := cT hq54 hb
            refine go_ops hΓ 7 rfl ?_
            obtain rfl := Option.some.inj h56
            exact ⟨⟨rfl, rfl, rfl, rfl, rfl, rfl, rfl, rfl, rfl, trivial⟩, [], rfl, .inl rfl⟩
          · have h57 := cF hq54 hb
            refine go_ops hΓ 3 rfl ?_
            refine eo_guard rfl ?_
            refine eo_o rfl (op_lookup hΓ (kv := kS) (agg := true) (enc := e_route_far) s2.1 s17.1 ((⟨0, 0⟩ : T_route_far) : T_route_far) rfl rfl rfl rfl key_str rfl rfl rfl rfl rfl rfl rfl) ?_
            obtain ⟨y58, hy58, h59⟩ := bi_ok h57
            refine eo_guard rfl ?_
            refine eo_callP (callable Tryd.func85 rfl rfl) (c_route_far_less hy58) rfl (Nat.le_of_ble_eq_true rfl) rfl rfl rfl rfl rfl ?_
            refine go_ops hΓ 2 rfl ?_
            obtain rfl := Option.some.inj h59
            exact ⟨⟨rfl, rfl, rfl, rfl, rfl, rfl, rfl, rfl, rfl, trivial⟩, [], rfl, .inl rfl⟩
        · refine go_ops hΓ 2 rfl ?_
          obtain rfl := Option.some.inj h55
          exact ⟨⟨rfl, rfl, rfl, rfl, rfl, rfl, rfl, rfl, trivial⟩, [], rfl, .inl rfl⟩
      · have h60 := cF hq51 hb
        refine go_ops hΓ 11 rfl ?_
        obtain rfl := Option.some.inj h60
        exact ⟨⟨rfl, rfl, rfl, rfl, rfl, rfl, rfl, rfl, trivial⟩, [], rfl, .inl rfl⟩
    · refine go_ops hΓ 2 rfl ?_
      refine j_cond rfl (fun hb => ?_) (fun hb => ?_)
      · have h61 := cT h52 hb
        refine go hΓ 6 rfl ?_
        obtain rfl := Option.some.inj h61
        exact ⟨j20, x18, b21, _, hjsn19, hbsn19, hnsn19, hssn19, ⟨⟨rfl, rfl, rfl, rfl, rfl, rfl, trivial⟩, [_], rfl, .inr ⟨HB.mk rfl, FB.mk rfl, (Nat.le_of_ble_eq_true rfl)⟩⟩⟩
      · have h62 := cF h52 hb
        refine go hΓ 2 rfl ?_
        obtain rfl := Option.some.inj h62
        exact ⟨j20, x18, b21, _, hjsn19, hbsn19, hnsn19, hssn19, ⟨⟨rfl, rfl, rfl, rfl, rfl, rfl, trivial⟩, [_], rfl, .inr ⟨HB.mk rfl, FB.mk rfl, (Nat.le_of_ble_eq_true rfl)⟩⟩⟩

theorem c_route_through {k : Nat} {l : List T_api_Link} {a : Str} {b : Str} {r : (List Str) × Int × Int} (h : m_route_through k l a b = some r) : Pure Tryd.prog 56 [.d (Sl e_api_Link l), S a, S b] (.tup [.d (Sl eS r.1), I r.2.1, I r.2.2]) := by
  refine Pure.enter (Fr.of 0 _) Tryd.func56 rfl (Fr.of_ok _) rfl rfl ?_
  refine go_in ?_
  unfold m_route_through at h
  obtain ⟨y1, hy1, h2⟩ := bi_ok h
  refine go hΓ 10 rfl ?_
  refine eo_callF [] (.map 0) [mOb kS false (eL e_route_step) y1] (callable Tryd.func76 rfl rfl) (c_route_stepsOf hy1) rfl (Nat.le_of_ble_eq_true rfl) rfl rfl rfl rfl rfl rfl rfl rfl rfl rfl ?_
  obtain ⟨y3, hy3, h4⟩ := bi_ok h2
  refine go_ops hΓ 7 rfl ?_
  refine eo_callF [0] (.map 1) [mOb kS false (eL e_route_step) y1, mOb kS true e_route_far y3] (callable Tryd.func77 rfl rfl) (c_route_distances hy3) rfl (Nat.le_of_ble_eq_true rfl) rfl rfl rfl rfl rfl rfl rfl rfl rfl rfl ?_
  refine go_ops hΓ 8 rfl ?_
  refine eo_o rfl (op_lookupOk hΓ (kv := kS) (agg := true) (enc := e_route_far) y3 a ((⟨0, 0⟩ : T_route_far) : T_route_far) rfl rfl rfl rfl key_str rfl rfl rfl rfl rfl rfl rfl) ?_
  refine go_ops hΓ 3 rfl ?_
  refine eo_alloc hΓ rfl rfl rfl (Nat.le_of_ble_eq_true rfl) ?_
  refine eo_store hΓ rfl rfl rfl rfl rfl rfl rfl rfl (Nat.le_of_ble_eq_true rfl) ?_
  refine eo_hp [mOb kS false (eL e_route_step) y1, mOb kS true e_route_far y3, .box 108 [I (((mGet y3 a).getD (⟨0, 0⟩ : T_route_far)).millis), I (((mGet y3 a).getD (⟨0, 0⟩ : T_route_far)).links)]] rfl ?_
  refine go_ops hΓ 9 rfl ?_
  refine j_cond rfl (fun hb => ?_) (fun hb => ?_)
  · have h5 := cT h4 hb
    refine go hΓ 9 rfl ?_
    obtain rfl := Option.some.inj h5
    exact fin_pure hΓ (.inr rfl) rfl rfl
  · have h6 := cF h4 hb
    refine go hΓ 5 rfl ?_
    refine eo_litRowT hΓ (enc := eS) [a] rfl rfl rfl rfl rfl rfl rfl rfl rfl rfl rfl rfl (Nat.le_of_ble_eq_true rfl) ?_
    refine go_ops hΓ 10 rfl ?_
    obtain ⟨q10, hq10, h11⟩ := bi_ok h6
    refine j_cutNZ [(1, S a), (10, .map 1), (13, .sl 3 q10.length)] [mOb kS false (eL e_route_step) y1, mOb kS true e_route_far y3, .box 108 [I (((mGet y3 a).getD (⟨0, 0⟩ : T_route_far)).millis), I (((mGet y3 a).getD (⟨0, 0⟩ : T_route_far)).links)], .row 9 1 q10.length (q10.flatMap eS)] ?_ ?_
    · refine go hΓ 1 rfl ?_
      refine j_loop hq10 (fun s8 => [(1, S a), (2, S b), (9, .map 0), (10, .map 1), (13, .sl 3 s8.1.length), (14, S s8.2)]) (fun s8 => [mOb kS false (eL e_route_step) y1, mOb kS true e_route_far y3, .box 108 [I (((mGet y3 a).getD (⟨0, 0⟩ : T_route_far)).millis), I (((mGet y3 a).getD (⟨0, 0⟩ : T_route_far)).links)], .row 9 1 s8.1.length (s8.1.flatMap eS)]) ⟨⟨rfl, rfl, rfl, rfl, rfl, rfl, trivial⟩, [], rfl, .inl rfl⟩ (fun s8 y16 hy14 hout15 => ?_)
      refine go hΓ 8 rfl ?_
      refine j_cond rfl (fun hb => ?_) (fun hb => ?_)
      · have h17 := cT hy14 hb
        refine go hΓ 13 rfl ?_
        refine eo_o rfl (op_lookup hΓ (kv := kS) (agg := false) (enc := (eL e_route_step)) y1 s8.2 ([] : List T_route_step) rfl rfl rfl rfl key_str rfl rfl rfl rfl rfl rfl rfl) ?_
        refine go_ops hΓ 4 rfl ?_
        obtain ⟨q21, hq21, h22⟩ := bi_ok h17
        refine j_bound 41 rfl fun hb24 => ?_
        refine j_cutNZ [(1, S a), (2, S b), (9, .map 0), (10, .map 1), (13, .sl 3 s8.1.length), (15, S q21)] [mOb kS false (eL e_route_step) y1, mOb kS true e_route_far y3, .box 108 [I (((mGet y3 a).getD (⟨0, 0⟩ : T_route_far)).millis), I (((mGet y3 a).getD (⟨0, 0⟩ : T_route_far)).links)], .row 9 1 s8.1.length (s8.1.flatMap eS)] ?_ ?_
        · refine go hΓ 1 rfl ?_
          refine j_rangeF ((mGet y1 s8.2).getD []) hq21 (fun i18 s19 => [(1, S a), (2, S b), (9, .map 0), (10, .map 1), (13, .sl 3 s8.1.length), (14, S s8.2), (15, S s19), (41, .d (Sl e_route_step ((mGet y1 s8.2).getD []))), (42, I (((mGet y1 s8.2).getD []).length : Int)), (43, I (i18 : Int))]) (fun s19 => [mOb kS false (eL e_route_step) y1, mOb kS true e_route_far y3, .box 108 [I (((mGet y3 a).getD (⟨0, 0⟩ : T_route_far)).millis), I (((mGet y3 a).getD (⟨0, 0⟩ : T_route_far)).links)], .row 9 1 s8.1.length (s8.1.flatMap eS)]) ⟨⟨rfl, rfl, rfl, rfl, rfl, rfl, rfl, rfl, rfl, rfl, trivial⟩, [], rfl, .inl rfl⟩ (fun i18 x20 s19 y28 hx25 hlt hy26 => ?_) (?_)
          · refine go hΓ 6 rfl ?_
            refine j_condT rfl (decide_eq_true (Int.ofNat_lt.2 hlt)) ?_
            refine go hΓ 6 rfl ?_
            refine eo_o rfl (op_elemZ hΓ (enc := e_route_step) (getZ_nat hx25) rfl rfl rfl rfl rfl (fun _ => rfl)) ?_
            refine go_ops hΓ 1 rfl ?_
            refine eo_alloc hΓ rfl rfl rfl (Nat.le_of_ble_eq_true rfl) ?_
            refine eo_store hΓ rfl rfl rfl rfl rfl rfl rfl rfl (Nat.le_of_ble_eq_true rfl) ?_
            refine eo_hp [mOb kS false (eL e_route_step) y1, mOb kS true e_route_far y3, .box 108 [I (((mGet y3 a).getD (⟨0, 0⟩ : T_route_far)).millis), I (((mGet y3 a).getD (⟨0, 0⟩ : T_route_far)).links)], .row 9 1 s8.1.length (s8.1.flatMap eS), .box 112 [S x20.to, I x20.millis]] rfl ?_
            refine go_ops hΓ 7 rfl ?_
            refine eo_o rfl (op_lookupOk hΓ (kv := kS) (agg := true) (enc := e_route_far) y3 x20.to ((⟨0, 0⟩ : T_route_far) : T_route_far) rfl rfl rfl rfl key_str rfl rfl rfl rfl rfl rfl rfl) ?_
            refine go_ops hΓ 3 rfl ?_
            refine eo_alloc hΓ rfl rfl rfl (Nat.le_of_ble_eq_true rfl) ?_
            refine eo_store hΓ rfl rfl rfl rfl rfl rfl rfl rfl (Nat.le_of_ble_eq_true rfl) ?_
            refine eo_hp [mOb kS false (eL e_route_step) y1, mOb kS true e_route_far y3, .box 108 [I (((mGet y3 a).getD (⟨0, 0⟩ : T_route_far)).millis), I (((mGet y3 a).getD (⟨0, 0⟩ : T_route_far)).links)], .row 9 1 s8.1.length (s8.1.flatMap eS), .box 112 [S x20.to, I x20.millis], .box 108 [I (((mGet y3 x20.to).getD (⟨0, 0⟩ : T_route_far)).millis), I (((mGet y3 x20.to).getD (⟨0, 0⟩ : T_route_far)).links)]] rfl ?_
            refine go_ops hΓ 7 rfl ?_
            refine o_cut 11 [(1, S a), (2, S b), (9, .map 0), (10, .map 1), (13, .sl 3 s8.1.length), (14, S s8.2), (15, S s19), (17, .ptr 4 0), (18, .ptr 5 0), (41, .d (Sl e_route_step ((mGet y1 s8.2).getD []))), (42, I (((mGet y1 s8.2).getD []).length : Int)), (43, I (i18 : Int)), (66, B (((mGet y3 x20.to).isSome) && ((wi ((((mGet y3 x20.to).getD (⟨0, 0⟩ : T_route_far)).millis) + x20.millis) : Int) == (((mGet y3 s8.2).getD (⟨0, 0⟩ : T_route_far)).millis))))] [mOb kS false (eL e_route_step) y1, mOb kS true e_route_far y3, .box 108 [I (((mGet y3 a).getD (⟨0, 0⟩ : T_route_far)).millis), I (((mGet y3 a).getD (⟨0, 0⟩ : T_route_far)).links)], .row 9 1 s8.1.length (s8.1.flatMap eS), .box 112 [S x20.to, I x20.millis], .box 108 [I (((mGet y3 x20.to).getD (⟨0, 0⟩ : T_route_far)).millis), I (((mGet y3 x20.to).getD (⟨0, 0⟩ : T_route_far)).links)]] ?_ ?_
            · refine eo_gsplit rfl rfl (fun hb => ?_) (fun hb => ?_)
              · refine go_ops hΓ 7 rfl ?_
                refine eo_guard rfl ?_
                refine eo_o rfl (op_lookup hΓ (kv := kS) (agg := true) (enc := e_route_far) y3 s8.2 ((⟨0, 0⟩ : T_route_far) : T_route_far) rfl rfl rfl rfl key_str rfl rfl rfl rfl rfl rfl rfl) ?_
                refine go_ops hΓ 4 rfl ?_
                exact ⟨⟨rfl, rfl, rfl, rfl, rfl, rfl, rfl, rfl, rfl, rfl, rfl, rfl, get_b rfl (and_t hb), trivial⟩, [], rfl, .inl rfl⟩
              · refine go_ops hΓ 12 rfl ?_
                exact ⟨⟨rfl, rfl, rfl, rfl, rfl, rfl, rfl, rfl, rfl, rfl, rfl, rfl, get_b rfl (and_f hb), trivial⟩, [], rfl, .inl rfl⟩
            · refine go_ops hΓ 1 rfl ?_
              refine o_cut 9 [(1, S a), (2, S b), (9, .map 0), (10, .map 1), (13, .sl 3 s8.1.length), (14, S s8.2), (15, S s19), (17, .ptr 4 0), (41, .d (Sl e_route_step ((mGet y1 s8.2).getD []))), (42, I (((mGet y1 s8.2).getD []).length : Int)), (43, I (i18 : Int)), (76, B ((((mGet y3 x20.to).isSome) && ((wi ((((mGet y3 x20.to).getD (⟨0, 0⟩ : T_route_far)).millis) + x20.millis) : Int) == (((mGet y3 s8.2).getD (⟨0, 0⟩ : T_route_far)).millis))) && ((wi ((((mGet y3 x20.to).getD (⟨0, 0⟩ : T_route_far)).links) + 1) : Int) == (((mGet y3 s8.2).getD (⟨0, 0⟩ : T_route_far)).links))))] [mOb kS false (eL e_route_step) y1, mOb kS true e_route_far y3, .box 108 [I (((mGet y3 a).getD (⟨0, 0⟩ : T_route_far)).millis), I (((mGet y3 a).getD (⟨0, 0⟩ : T_route_far)).links)], .row 9 1 s8.1.length (s8.1.flatMap eS), .box 112 [S x20.to, I x20.millis], .box 108 [I (((mGet y3 x20.to).getD (⟨0, 0⟩ : T_route_far)).millis), I (((mGet y3 x20.to).getD (⟨0, 0⟩ : T_route_far)).links)]] ?_ ?_
              · refine eo_gsplit rfl rfl (fun hb => ?_) (fun hb => ?_)
                · refine go_ops hΓ 5 rfl ?_
                  refine eo_guard rfl ?_
                  refine eo_o rfl (op_lookup hΓ (kv := kS) (agg := true) (enc := e_route_far) y3 s8.2 ((⟨0, 0⟩ : T_route_far) : T_route_far) rfl rfl rfl rfl key_str rfl rfl rfl rfl rfl rfl rfl) ?_
                  refine go_ops hΓ 4 rfl ?_
                  exact ⟨⟨rfl, rfl, rfl, rfl, rfl, rfl, rfl, rfl, rfl, rfl, rfl, get_b rfl (and_t hb), trivial⟩, [], rfl, .inl rfl⟩
                · refine go_ops hΓ 10 rfl ?_
                  exact ⟨⟨rfl, rfl, rfl, rfl, rfl, rfl, rfl, rfl, rfl, rfl, rfl, get_b rfl (and_f hb), trivial⟩, [], rfl, .inl rfl⟩
              · refine go_ops hΓ 1 rfl ?_
                refine o_cut 9 [(1, S a), (2, S b), (9, .map 0), (10, .map 1), (13, .sl 3 s8.1.length), (14, S s8.2), (15, S s19), (17, .ptr 4 0), (41, .d (Sl e_route_step ((mGet y1 s8.2).getD []))), (42, I (((mGet y1 s8.2).getD []).length : Int)), (43, I (i18 : Int)), (86, B (((((mGet y3 x20.to).isSome) && ((wi ((((mGet y3 x20.to).getD (⟨0, 0⟩ : T_route_far)).millis) + x20.millis) : Int) == (((mGet y3 s8.2).getD (⟨0, 0⟩ : T_route_far)).millis))) && ((wi ((((mGet y3 x20.to).getD (⟨0, 0⟩ : T_route_far)).links) + 1) : Int) == (((mGet y3 s8.2).getD (⟨0, 0⟩ : T_route_far)).links))) && (((s19 : Str) == []) || (Op.bytesLess x20.to s19))))] [mOb kS false (eL e_route_step) y1, mOb kS true e_route_far y3, .box 108 [I (((mGet y3 a).getD (⟨0, 0⟩ : T_route_far)).millis), I (((mGet y3 a).getD (⟨0, 0⟩ : T_route_far)).links)], .row 9 1 s8.1.length (s8.1.flatMap eS), .box 112 [S x20.to, I x20.millis], .box 108 [I (((mGet y3 x20.to).getD (⟨0, 0⟩ : T_route_far)).millis), I (((mGet y3 x20.to).getD (⟨0, 0⟩ : T_route_far)).links)]] ?_ ?_
                · refine eo_gsplit rfl rfl (fun hb => ?_) (fun hb => ?_)
                  · refine go_ops hΓ 3 rfl ?_
                    refine o_cut 5 [(1, S a), (2, S b), (9, .map 0), (10, .map 1), (13, .sl 3 s8.1.length), (14, S s8.2), (15, S s19), (17, .ptr 4 0), (41, .d (Sl e_route_step ((mGet y1 s8.2).getD []))), (42, I (((mGet y1 s8.2).getD []).length : Int)), (43, I (i18 : Int)), (77, B true), (85, B (((s19 : Str) == []) || (Op.bytesLess x20.to s19)))] [mOb kS false (eL e_route_step) y1, mOb kS true e_route_far y3, .box 108 [I (((mGet y3 a).getD (⟨0, 0⟩ : T_route_far)).millis), I (((mGet y3 a).getD (⟨0, 0⟩ : T_route_far)).links)], .row 9 1 s8.1.length (s8.1.flatMap eS), .box 112 [S x20.to, I x20.millis], .box 108 [I (((mGet y3 x20.to).getD (⟨0, 0⟩ : T_route_far)).millis), I (((mGet y3 x20.to).getD (⟨0, 0⟩ : T_route_far)).links)]] ?_ ?_
                    · refine eo_gsplit rfl rfl (fun hb => ?_) (fun hb => ?_)
                      · refine go_ops hΓ 6 rfl ?_
                        exact ⟨⟨rfl, rfl, rfl, rfl, rfl, rfl, rfl, rfl, rfl, rfl, rfl, rfl, get_b rfl (or_t hb), trivial⟩, [], rfl, .inl rfl⟩
                      · refine go_ops hΓ 6 rfl ?_
                        exact ⟨⟨rfl, rfl, rfl, rfl, rfl, rfl, rfl, rfl, rfl, rfl, rfl, rfl, get_b rfl (or_f hb), trivial⟩, [], rfl, .inl rfl⟩
                    · refine go_ops hΓ 2 rfl ?_
                      exact ⟨⟨rfl, rfl, rfl, rfl, rfl, rfl, rfl, rfl, rfl, rfl, rfl, get_b rfl (and_t hb), trivial⟩, [], rfl, .inl rfl⟩
                  · refine go_ops hΓ 10 rfl ?_
                    exact ⟨⟨rfl, rfl, rfl, rfl, rfl, rfl, rfl, rfl, rfl, rfl, rfl, get_b rfl (and_f hb), trivial⟩, [], rfl, .inl rfl⟩
                · refine go_ops hΓ 2 rfl ?_
                  refine j_cond rfl (fun hb => ?_) (fun hb => ?_)
                  · have h29 := cT hy26 hb
                    refine go hΓ 11 rfl ?_
                    obtain rfl := Option.some.inj h29
                    exact ⟨⟨rfl, rfl, rfl, rfl, rfl, rfl, rfl, rfl, rfl, get_eq rfl (w64_succ (Nat.lt_of_lt_of_le hlt hb24)), trivial⟩, [_, _], rfl, .inr ⟨HB.mk rfl, FB.mk rfl, (Nat.le_of_ble_eq_true rfl)⟩⟩
                  · have h30 := cF hy26 hb
                    refine go hΓ 7 rfl ?_
                    obtain rfl := Option.some.inj h30
                    exact ⟨⟨rfl, rfl, rfl, rfl, rfl, rfl, rfl, rfl, rfl, get_eq rfl (w64_succ (Nat.lt_of_lt_of_le hlt hb24)), trivial⟩, [_, _], rfl, .inr ⟨HB.mk rfl, FB.mk rfl, (Nat.le_of_ble_eq_true rfl)⟩⟩
          · refine go hΓ 6 rfl ?_
            refine j_condF rfl (decide_eq_false (Int.lt_irrefl _)) ?_
            refine go hΓ 4 rfl ?_
            exact ⟨⟨rfl, rfl, rfl, rfl, rfl, rfl, trivial⟩, [], rfl, .inl rfl⟩
        · refine go hΓ 10 rfl ?_
          refine eo_litT hΓ (enc := eS) [q21] rfl rfl rfl rfl rfl rfl rfl rfl rfl rfl rfl rfl (Nat.le_of_ble_eq_true rfl) ?_
          obtain ⟨y31, hy31, h32⟩ := bi_ok h22
          refine eo_appendT hΓ (enc := eS) hy31 rfl rfl rfl rfl rfl rfl rfl rfl rfl (fun _ => rfl) rfl rfl rfl rfl ?_
          refine go_ops hΓ 3 rfl ?_
          obtain rfl := Option.some.inj h32
          exact ⟨_, rfl, ⟨⟨rfl, rfl, rfl, rfl, rfl, rfl, trivial⟩, [], rfl, .inl rfl⟩⟩
      · have h33 := cF hy14 hb
        refine go hΓ 4 rfl ?_
        obtain rfl := Option.some.inj h33
        obtain rfl := hout15 _ rfl
        exact ⟨⟨rfl, rfl, rfl, trivial⟩, [], rfl, .inl rfl⟩
    · refine go hΓ 2 rfl ?_
      refine j_draw hmix (by kernel_rfl) ?_
      refine go hΓ 3 rfl ?_
      refine gl_o rfl (op_lookup hΓ (kv := kS) (agg := true) (enc := e_route_far) y3 a ((⟨0, 0⟩ : T_route_far) : T_route_far) rfl rfl rfl rfl key_str rfl rfl rfl rfl rfl rfl rfl) ?_
      refine go_draw hΓ 6 rfl ?_
      refine j_shr 3 [6, 13, 95] _ [mOb kS false (eL e_route_step) y1, mOb kS true e_route_far y3, .box 108 [I (((mGet y3 a).getD (⟨0, 0⟩ : T_route_far)).millis), I (((mGet y3 a).getD (⟨0, 0⟩ : T_route_far)).links)], .dead] rfl rfl rfl (Nat.le_of_ble_eq_true rfl) ?_
      refine go hΓ 1 rfl ?_
      obtain rfl := Option.some.inj h11
      exact fin_pure hΓ (.inr rfl) rfl rfl

theorem c_route_Through {k : Nat} {l : List T_api_Link} {a : Str} {b : Str} {r : (List Str) × Int × Int} (h : m_route_Through k l a b = some r) : Pure Tryd.prog 24 [.d (Sl e_api_Link l), S a, S b] (.tup [.d (Sl eS r.1), I r.2.1, I r.2.2]) := by
  refine Pure.enter (Fr.of 0 _) Tryd.func24 rfl (Fr.of_ok _) rfl rfl ?_
  refine go_in ?_
  unfold m_route_Through at h
  obtain ⟨y1, hy1, h2⟩ := bi_ok h
  refine go hΓ 11 rfl ?_
  refine eo_callP (callable Tryd.func26 rfl rfl) (c_route_CheckLinks hy1) rfl (Nat.le_of_ble_eq_true rfl) rfl rfl rfl rfl rfl ?_
  refine go_ops hΓ 9 rfl ?_
  refine j_cond rfl (fun hb => ?_) (fun hb => ?_)
  · have h3 := cT h2 hb
    refine go hΓ 10 rfl ?_
    obtain rfl := Option.some.inj h3
    exact fin_pure hΓ (.inr rfl) rfl rfl
  · have h4 := cF h2 hb
    obtain ⟨y5, hy5, h6⟩ := bi_ok h4
    refine go hΓ 6 rfl ?_
    refine eo_callP (callable Tryd.func51 rfl rfl) (c_kit_IsKey hy5) rfl (Nat.le_of_ble_eq_true rfl) rfl rfl rfl rfl rfl ?_
    refine go_ops hΓ 2 rfl ?_
    obtain ⟨q7, hq7, h8⟩ := bi_ok h6
    refine o_cut 4 [(0, .d (Sl e_api_Link l)), (1, S a), (2, S b), (22, B q7)] [] ?_ ?_
    · refine eo_gsplit rfl rfl (fun hb => ?_) (fun hb => ?_)
      · have h9 := cT hq7 hb
        refine go_ops hΓ 5 rfl ?_
        obtain rfl := Option.some.inj h9
        exact ⟨⟨rfl, rfl, rfl, rfl, trivial⟩, [], rfl, .inl rfl⟩
      · have h10 := cF hq7 hb
        obtain ⟨y11, hy11, h12⟩ := bi_ok h10
        refine go_ops hΓ 1 rfl ?_
        refine eo_guard rfl ?_
        refine eo_callP (callable Tryd.func51 rfl rfl) (c_kit_IsKey hy11) rfl (Nat.le_of_ble_eq_true rfl) rfl rfl rfl rfl rfl ?_
        refine go_ops hΓ 3 rfl ?_
        obtain rfl := Option.some.inj h12
        exact ⟨⟨rfl, rfl, rfl, rfl, trivial⟩, [], rfl, .inl rfl⟩
    · refine go_ops hΓ 2 rfl ?_
      refine j_cond rfl (fun hb => ?_) (fun hb => ?_)
      · have h13 := cT h8 hb
        refine go hΓ 9 rfl ?_
        obtain rfl := Option.some.inj h13
        exact fin_pure hΓ (.inr rfl) rfl rfl
      · have h14 := cF h8 hb
        obtain ⟨y15, hy15, h16⟩ := bi_ok h14
        refine go hΓ 7 rfl ?_
        refine eo_callP (callable Tryd.func56 rfl rfl) (c_route_through hy15) rfl (Nat.le_of_ble_eq_true rfl) rfl rfl rfl rfl rfl ?_
        refine go_ops hΓ 9 rfl ?_
        obtain rfl := Option.some.inj h16
        exact fin_pure hΓ (.inr rfl) rfl rfl

theorem c_slices_Equal_string_string {s1 : List Str} {s2 : List Str} {r : Bool} (h : m_slices_Equal_string_string s1 s2 = some r) : Pure Tryd.prog 28 [.d (Sl eS s1), .d (Sl eS s2)] (B r) := by
  refine Pure.enter (Fr.of 0 _) Tryd.func28 rfl (Fr.of_ok _) rfl rfl ?_
  refine go_in ?_
  unfold m_slices_Equal_string_string at h
  refine go hΓ 15 rfl ?_
  refine j_cond rfl (fun hb => ?_) (fun hb => ?_)
  · have h1 := cT h hb
    refine go hΓ 7 rfl ?_
    obtain rfl := Option.some.inj h1
    exact fin_pure hΓ (.inr rfl) rfl rfl
  · have h2 := cF h hb
    refine go hΓ 10 rfl ?_
    obtain ⟨q6, hq6, h7⟩ := bi_ok h2
    refine j_bound 0 rfl fun hb9 => ?_
    refine j_cutEZ (R := fun a8 => q6 = .go a8) (fun a8 => []) (fun a8 => []) ?_ ?_
    · refine go hΓ 1 rfl ?_
      refine j_range s1 hq6 (fun i3 s4 => [(0, .d (Sl eS s1)), (1, .d (Sl eS s2)), (12, I (s1.length : Int)), (13, I (i3 : Int))]) (fun s4 => []) ⟨⟨rfl, rfl, rfl, rfl, trivial⟩, [], rfl, .inl rfl⟩ (fun i3 x5 s4 y13 hx10 hlt hy11 hout12 => ?_) (fun s4 hgo => ?_)
      · refine go hΓ 6 rfl ?_
        refine j_condT rfl (decide_eq_true (Int.ofNat_lt.2 hlt)) ?_
        refine go hΓ 11 rfl ?_
        refine j_draw hmix (by kernel_rfl) ?_
        refine go hΓ 2 rfl ?_
        refine gl_o rfl (op_elemZ hΓ (enc := eS) (getZ_nat hx10) rfl rfl rfl rfl rfl (fun _ => rfl)) ?_
        obtain ⟨x14, hx14, h15⟩ := bi_ok hy11
        refine go_draw hΓ 3 rfl ?_
        refine gl_o rfl (op_elemZ hΓ (enc := eS) hx14 rfl rfl rfl rfl rfl (fun _ => rfl)) ?_
        refine go_draw hΓ 4 rfl ?_
        refine j_cond rfl (fun hb => ?_) (fun hb => ?_)
        · have h16 := cT h15 hb
          refine go hΓ 8 rfl ?_
          obtain ⟨v17, hv17, h18⟩ := bi_ok h16
          obtain rfl := Option.some.inj h18
          obtain rfl := hout12 _ rfl
          obtain rfl := Option.some.inj h7
          refine go hΓ 4 rfl ?_
          obtain rfl := Option.some.inj hv17
          exact fin_pure hΓ (.inr rfl) rfl rfl
        · have h19 := cF h15 hb
          refine go hΓ 7 rfl ?_
          obtain rfl := Option.some.inj h19
          exact ⟨_, rfl, ⟨⟨rfl, rfl, rfl, get_eq rfl (w64_succ (Nat.lt_of_lt_of_le hlt hb9)), trivial⟩, [], rfl, .inl rfl⟩⟩
      · subst hgo
        refine go hΓ 6 rfl ?_
        refine j_condF rfl (decide_eq_false (Int.lt_irrefl _)) ?_
        refine go hΓ 4 rfl ?_
        exact ⟨_, rfl, ⟨trivial, [], rfl, .inl rfl⟩⟩
    · intro a8 ha
      subst ha
      replace h7 := goI_l h7
      refine go hΓ 7 rfl ?_
      obtain rfl := Option.some.inj h7
      exact fin_pure hΓ (.inr rfl) rfl rfl

theorem c_lanelaw1_routed {k : Nat} {r : Bool} (h : m_lanelaw1_routed k = some r) : Pure Tryd.prog 22 [] (B r) := by
  refine Pure.enter (Fr.of 0 _) Tryd.func22 rfl (Fr.of_ok _) rfl rfl ?_
  refine go_in ?_
  unfold m_lanelaw1_routed at h
  refine go hΓ 7 rfl ?_
  refine eo_build hΓ (gs := [S [97], S [98], I 3]) rfl rfl rfl rfl rfl rfl rfl ?_
  refine eo_litT hΓ (enc := e_api_Link) [(⟨[97], [98], 3⟩ : T_api_Link)] rfl rfl rfl rfl rfl rfl rfl rfl rfl rfl rfl rfl (Nat.le_of_ble_eq_true rfl) ?_
  obtain ⟨y1, hy1, h2⟩ := bi_ok h
  refine eo_callP (callable Tryd.func24 rfl rfl) (c_route_Through hy1) rfl (Nat.le_of_ble_eq_true rfl) rfl rfl rfl rfl rfl ?_
  refine go_ops hΓ 14 rfl ?_
  refine o_cut 3 [(0, B false), (1, .d (Sl eS y1.1)), (16, B (((y1.2.2 : Int) == 0) && ((y1.2.1 : Int) == 3)))] [] ?_ ?_
  · refine eo_gsplit rfl rfl (fun hb => ?_) (fun hb => ?_)
    · refine go_ops hΓ 4 rfl ?_
      exact ⟨⟨rfl, rfl, get_b rfl (and_t hb), trivial⟩, [], rfl, .inl rfl⟩
    · refine go_ops hΓ 4 rfl ?_
      exact ⟨⟨rfl, rfl, get_b rfl (and_f hb), trivial⟩, [], rfl, .inl rfl⟩
  · refine go_ops hΓ 1 rfl ?_
    obtain ⟨q3, hq3, h4⟩ := bi_ok h2
    refine o_cut 4 [(0, B false), (21, B q3)] [] ?_ ?_
    · refine eo_gsplit rfl rfl (fun hb => ?_) (fun hb => ?_)
      · have h5 := cT hq3 hb
        refine go_ops hΓ 1 rfl ?_
        refine eo_guard rfl ?_
        refine eo_litT hΓ (enc := eS) [[98], [97]] rfl rfl rfl rfl rfl rfl rfl rfl rfl rfl rfl rfl (Nat.le_of_ble_eq_true rfl) ?_
        obtain ⟨y6, hy6, h7⟩ := bi_ok h5
        refine eo_guard rfl ?_
        refine eo_callP (callable Tryd.func28 rfl rfl) (c_slices_Equal_string_string hy6) rfl (Nat.le_of_ble_eq_true rfl) rfl rfl rfl rfl rfl ?_
        refine go_ops hΓ 2 rfl ?_
        obtain rfl := Option.some.inj h7
        exact ⟨⟨rfl, rfl, trivial⟩, [], rfl, .inl rfl⟩
      · have h8 := cF hq3 hb
        refine go_ops hΓ 5 rfl ?_
        obtain rfl := Option.some.inj h8
        exact ⟨⟨rfl, rfl, trivial⟩, [], rfl, .inl rfl⟩
    · refine go_ops hΓ 4 rfl ?_
      obtain rfl := Option.some.inj h4
      exact fin_pure hΓ (.inr rfl) rfl rfl

theorem c_laneref1_goodAt {l : List T_api_Sample} {fresh : Int} {v_at : Int} {r : List (Str × Int)} (h : m_laneref1_goodAt l fresh v_at = some r) : EC Tryd.prog 67 [.d (Sl e_api_Sample l), I fresh, I v_at] [] fun g hp' => g = .map 0 ∧ hp' = [mOb kS false (eN .i64) r] := by
  refine ec_enter (Fr.of 0 _) Tryd.func67 rfl (Fr.of_ok _) (Nat.le_of_ble_eq_true rfl) fun _ => ?_
  refine go_in ?_
  unfold m_laneref1_goodAt at h
  refine go hΓ 7 rfl ?_
  refine eo_s (Nat.le_of_ble_eq_true rfl) (nblt.1 rfl) (ops_makeMap true) ?_
  refine eo_hp [mOb kS true e_api_Sample ([] : List (Str × T_api_Sample))] rfl ?_
  refine go_ops hΓ 11 rfl ?_
  obtain ⟨q4, hq4, h5⟩ := bi_ok h
  refine j_bound 14 rfl fun hb7 => ?_
  refine j_cutNZ [(1, I fresh), (2, I v_at), (7, .map 0)] [mOb kS true e_api_Sample q4] ?_ ?_
  · refine go hΓ 1 rfl ?_
    refine j_rangeF l hq4 (fun i1 s2 => [(1, I fresh), (2, I v_at), (7, .map 0), (14, .d (Sl e_api_Sample l)), (15, I (l.length : Int)), (16, I (i1 : Int))]) (fun s2 => [mOb kS true e_api_Sample s2]) ⟨⟨rfl, rfl, rfl, rfl, rfl, rfl, trivial⟩, [], rfl, .inl rfl⟩ (fun i1 x3 s2 y11 hx8 hlt hy9 => ?_) (?_)
    · refine go hΓ 6 rfl ?_
      refine j_condT rfl (decide_eq_true (Int.ofNat_lt.2 hlt)) ?_
      refine go hΓ 6 rfl ?_
      refine eo_o rfl (op_elemZ hΓ (enc := e_api_Sample) (getZ_nat hx8) rfl rfl rfl rfl rfl (fun _ => rfl)) ?_
      refine go_ops hΓ 1 rfl ?_
      refine eo_alloc hΓ rfl rfl rfl (Nat.le_of_ble_eq_true rfl) ?_
      refine eo_store hΓ rfl rfl rfl rfl rfl rfl rfl rfl (Nat.le_of_ble_eq_true rfl) ?_
      refine eo_hp [mOb kS true e_api_Sample s2, .box 92 [I x3.At, S x3.Path, I x3.Millis]] rfl ?_
      refine go_ops hΓ 10 rfl ?_
      refine j_cond rfl (fun hb => ?_) (fun hb => ?_)
      · have h12 := cT hy9 hb
        refine go hΓ 5 rfl ?_
        refine eo_u (Nat.le_of_ble_eq_true rfl) (opu_mapUpdate hΓ (kv := kS) (agg := true) (enc := e_api_Sample) (id := 0) s2 x3.Path x3 rfl rfl rfl key_str rfl rfl rfl rfl rfl) ?_
        refine eo_hp [mOb kS true e_api_Sample (mSet s2 x3.Path x3), .box 92 [I x3.At, S x3.Path, I x3.Millis]] rfl ?_
        refine go_ops hΓ 7 rfl ?_
        obtain rfl := Option.some.inj h12
        exact ⟨⟨rfl, rfl, rfl, rfl, rfl, get_eq rfl (w64_succ (Nat.lt_of_lt_of_le hlt hb7)), trivial⟩, [_], rfl, .inr ⟨HB.mk rfl, FB.mk rfl, (Nat.le_of_ble_eq_true rfl)⟩⟩
      · have h13 := cF hy9 hb
        refine go hΓ 7 rfl ?_
        obtain rfl := Option.some.inj h13
        exact ⟨⟨rfl, rfl, rfl, rfl, rfl, get_eq rfl (w64_succ (Nat.lt_of_lt_of_le hlt hb7)), trivial⟩, [_], rfl, .inr ⟨HB.mk rfl, FB.mk rfl, (Nat.le_of_ble_eq_true rfl)⟩⟩
    · refine go hΓ 6 rfl ?_
      refine j_condF rfl (decide_eq_false (Int.lt_irrefl _)) ?_
      refine go hΓ 4 rfl ?_
      exact ⟨⟨rfl, rfl, rfl, trivial⟩, [], rfl, .inl rfl⟩
  · refine go hΓ 3 rfl ?_
    refine eo_s (Nat.le_of_ble_eq_true rfl) (nblt.1 rfl) (ops_makeMap false) ?_
    refine eo_hp [mOb kS true e_api_Sample q4, mOb kS false (eN .i64) ([] : List (Str × Int))] rfl ?_
    refine go_ops hΓ 7 rfl ?_
    refine eo_range hΓ (kv := kS) (agg := true) (enc := e_api_Sample) q4 rfl rfl rfl rfl rfl (Nat.le_of_ble_eq_true rfl) (fun mr14 bs15 cl16 hpm17 hbl18 hbn19 => ?_)
    refine eo_hp [mObS kS true e_api_Sample q4 (rawM kS e_api_Sample mr14 bs15 cl16), mOb kS false (eN .i64) ([] : List (Str × Int)), .iter 0 cl16 []] rfl ?_
    refine go_ops hΓ 2 rfl ?_
    obtain ⟨q25, hq25, h26⟩ := bi_ok h5
    refine go hΓ 1 rfl ?_
    refine j_rangeP hq25 hpm17 hbl18 hbn19 (fun s20 => [(1, I fresh), (2, I v_at), (10, .map 1), (31, .ptr 2 0)]) (fun sn22 s20 => [mObS kS true e_api_Sample q4 (rawM kS e_api_Sample mr14 bs15 cl16), mOb kS false (eN .i64) s20, .iter 0 cl16 sn22]) ⟨⟨rfl, rfl, rfl, rfl, trivial⟩, [], rfl, .inl rfl⟩ (fun sn22 s20 hdone27 hstep28 => ?_)
    refine go hΓ 2 rfl ?_
    refine eo_next (kv := kS) (agg := true) (enc := e_api_Sample) q4 mr14 bs15 cl16 sn22 [mOb kS true e_api_Sample q4, mOb kS false (eN .i64) s20, .dead] rfl rfl rfl rfl rfl (Nat.le_of_ble_eq_true rfl) (fun hdsn22 => ?_) (fun j23 x21 b24 hjsn22 hbsn22 hnsn22 => ?_)
    · have hqsn22 := hdone27 hdsn22
      subst hqsn22
      refine go_ops hΓ 14 rfl ?_
      refine eo_kill 0 [.dead, mOb kS false (eN .i64) q25, .dead] rfl (Nat.le_of_ble_eq_true rfl) ?_
      refine eo_move 1 0 [mOb kS false (eN .i64) q25, .dead, .dead] rfl rfl rfl rfl rfl rfl ?_
      refine go_ops hΓ 3 rfl ?_
      obtain rfl := Option.some.inj h26
      exact fin_objs hΓ [_, _] (.inr rfl) rfl rfl rfl rfl (.inr ⟨HB.mk rfl, rfl⟩)
    · obtain ⟨s29, h30⟩ := hstep28 j23 x21 b24 hjsn22 hbsn22 hnsn22
      have hssn22 := h30
      refine go_ops hΓ 10 rfl ?_
      refine eo_o rfl (op_entry (kv := kS) (agg := true) (enc := e_api_Sample) q4 mr14 bs15 cl16 sn22 hjsn22 hbsn22 rfl rfl rfl rfl (fun _ => rfl)) ?_
      refine go_ops hΓ 2 rfl ?_
      refine eo_alloc hΓ rfl rfl rfl (Nat.le_of_ble_eq_true rfl) ?_
      refine go_ops hΓ 1 rfl ?_
      refine eo_store hΓ rfl rfl rfl rfl rfl rfl rfl rfl (Nat.le_of_ble_eq_true rfl) ?_
      refine eo_hp [mObS kS true e_api_Sample q4 (rawM kS e_api_Sample mr14 bs15 cl16), mOb kS false (eN .i64) s20, .iter 0 cl16 (sn22 ++ [b24]), .box 92 [I x21.2.At, S x21.2.Path, I x21.2.Millis]] rfl ?_
      refine go_ops hΓ 8 rfl ?_
      refine o_cut 7 [(1, I fresh), (2, I v_at), (10, .map 1), (11, S x21.1), (12, .ptr 3 0), (31, .ptr 2 0), (47, B ((decide ((x21.2.Millis : Int) ≥ 0)) && (decide ((wi (x21.2.At + fresh) : Int) > v_at))))] [mObS kS true e_api_Sample q4 (rawM kS e_api_Sample mr14 bs15 cl16), mOb kS false (eN .i64) s20, .iter 0 cl16 (sn22 ++ [b24]), .box 92 [I x21.2.At, S x21.2.Path, I x21.2.Millis]] ?_ ?_
      · refine eo_gsplit rfl rfl (fun hb => ?_) (fun hb => ?_)
        · refine go_ops hΓ 8 rfl ?_
          exact ⟨⟨rfl, rfl, rfl, rfl, rfl, rfl, get_b rfl (and_t hb), trivial⟩, [], rfl, .inl rfl⟩
        · refine go_ops hΓ 8 rfl ?_
          exact ⟨⟨rfl, rfl, rfl, rfl, rfl, rfl, get_b rfl (and_f hb), trivial⟩, [], rfl, .inl rfl⟩
      · refine go_ops hΓ 2 rfl ?_
        refine j_cond rfl (fun hb => ?_) (fun hb => ?_)
        · have h31 := cT h30 hb
          refine go hΓ 5 rfl ?_
          refine eo_u (Nat.le_of_ble_eq_true rfl) (opu_mapUpdate hΓ (kv := kS) (agg := false) (enc := (eN .i64)) (id := 1) s20 x21.1 x21.2.Millis rfl rfl rfl key_str rfl rfl rfl rfl rfl) ?_
          refine eo_hp [mObS kS true e_api_Sample q4 (rawM kS e_api_Sample mr14 bs15 cl16), mOb kS false (eN .i64) (mSet s20 x21.1 x21.2.Millis), .iter 0 cl16 (sn22 ++ [b24]), .box 92 [I x21.2.At, S x21.2.Path, I x21.2.Millis]] rfl ?_
          refine go_ops hΓ 2 rfl ?_
          obtain rfl := Option.some.inj h31
          exact ⟨j23, x21, b24, _, hjsn22, hbsn22, hnsn22, hssn22, ⟨⟨rfl, rfl, rfl, rfl, trivial⟩, [_], rfl, .inr ⟨HB.mk rfl, FB.mk rfl, (Nat.le_of_ble_eq_true rfl)⟩⟩⟩
        · have h32 := cF h30 hb
          refine go hΓ 2 rfl ?_
          obtain rfl := Option.some.inj h32
          exact ⟨j23, x21, b24, _, hjsn22, hbsn22, hnsn22, hssn22, ⟨⟨rfl, rfl, rfl, rfl, trivial⟩, [_], rfl, .inr ⟨HB.mk rfl, FB.mk rfl, (Nat.le_of_ble_eq_true rfl)⟩⟩⟩

theorem c_laneref1_addTurn {l : List T_api_Turn} {who : Str} {v_from : Int} {to : Int} {r : List T_api_Turn} (h : m_laneref1_addTurn l who v_from to = some r) : EC Tryd.prog 55 [.sl 0 l.length, S who, I v_from, I to] [.row 45 3 l.length (l.flatMap e_api_Turn)] fun g hp' => g = .sl 1 r.length ∧ hp' = [.dead, .row 45 3 r.length (r.flatMap e_api_Turn)] := by
  refine ec_enter (Fr.of 0 _) Tryd.func55 rfl (Fr.of_ok _) (Nat.le_of_ble_eq_true rfl) fun _ => ?_
  refine go_in ?_
  unfold m_laneref1_addTurn at h
  refine go hΓ 2 rfl ?_
  refine eo_nilOwn (t := 0) 45 3 rfl (Nat.le_of_ble_eq_true rfl) ?_
  refine go_ops hΓ 8 rfl ?_
  refine o_cut 4 [(0, .sl 0 l.length), (1, S who), (2, I v_from), (3, I to), (16, B (((who : Str) == []) || (decide ((v_from : Int) ≥ to))))] [.row 45 3 l.length (l.flatMap e_api_Turn), .row 45 3 ([] : List T_api_Turn).length (([] : List T_api_Turn).flatMap e_api_Turn)] ?_ ?_
  · refine eo_gsplit rfl rfl (fun hb => ?_) (fun hb => ?_)
    · refine go_ops hΓ 5 rfl ?_
      exact ⟨⟨rfl, rfl, rfl, rfl, get_b rfl (or_t hb), trivial⟩, [], rfl, .inl rfl⟩
    · refine go_ops hΓ 5 rfl ?_
      exact ⟨⟨rfl, rfl, rfl, rfl, get_b rfl (or_f hb), trivial⟩, [], rfl, .inl rfl⟩
  · refine go_ops hΓ 2 rfl ?_
    refine j_cond rfl (fun hb => ?_) (fun hb => ?_)
    · have h1 := cT h hb
      refine go hΓ 4 rfl ?_
      refine eo_shr 1 [] _ [.row 45 3 l.length (l.flatMap e_api_Turn), .dead] rfl rfl rfl (Nat.le_of_ble_eq_true rfl) ?_
      refine eo_move 0 1 [.dead, .row 45 3 l.length (l.flatMap e_api_Turn)] rfl rfl rfl rfl rfl rfl ?_
      refine go_ops hΓ 4 rfl ?_
      obtain rfl := Option.some.inj h1
      exact fin_objs hΓ [] (.inr rfl) rfl rfl rfl rfl (.inl rfl)
    · have h2 := cF h hb
      refine go hΓ 15 rfl ?_
      obtain ⟨q3, hq3, h4⟩ := bi_ok h2
      refine o_cut 9 [(0, .sl 0 l.length), (1, S who), (2, I v_from), (3, I to), (9, I (l.length : Int)), (31, B q3)] [.row 45 3 l.length (l.flatMap e_api_Turn), .row 45 3 ([] : List T_api_Turn).length (([] : List T_api_Turn).flatMap e_api_Turn)] ?_ ?_
      · refine eo_gsplit rfl rfl (fun hb => ?_) (fun hb => ?_)
        · have h5 := cT hq3 hb
          obtain ⟨x6, hx6, h7⟩ := bi_ok h5
          have hj8 := getZ_at hx6
          refine go_ops hΓ 3 rfl ?_
          refine eo_guard rfl ?_
          refine eo_o rfl (op_elemRowZ hΓ hx6 rfl rfl rfl rfl rfl rfl) ?_
          refine go_ops hΓ 1 rfl ?_
          refine eo_guard rfl ?_
          refine eo_o rfl (op_loadRowZ hΓ (enc := e_api_Turn) ((wi ((l.length : Int) - 1)).toNat) 0 hj8 rfl rfl rfl rfl (fun _ => rfl) (g := S x6.Who) rfl) ?_
          refine go_ops hΓ 4 rfl ?_
          obtain rfl := Option.some.inj h7
          exact ⟨⟨rfl, rfl, rfl, rfl, rfl, rfl, trivial⟩, [], rfl, .inl rfl⟩
        · have h9 := cF hq3 hb
          refine go_ops hΓ 10 rfl ?_
          obtain rfl := Option.some.inj h9
          exact ⟨⟨rfl, rfl, rfl, rfl, rfl, rfl, trivial⟩, [], rfl, .inl rfl⟩
      · refine go_ops hΓ 1 rfl ?_
        obtain ⟨q10, hq10, h11⟩ := bi_ok h4
        refine o_cut 9 [(0, .sl 0 l.length), (1, S who), (2, I v_from), (3, I to), (9, I (l.length : Int)), (41, B q10)] [.row 45 3 l.length (l.flatMap e_api_Turn), .row 45 3 ([] : List T_api_Turn).length (([] : List T_api_Turn).flatMap e_api_Turn)] ?_ ?_
        · refine eo_gsplit rfl rfl (fun hb => ?_) (fun hb => ?_)
          · have h12 := cT hq10 hb
            obtain ⟨x13, hx13, h14⟩ := bi_ok h12
            have hj15 := getZ_at hx13
            refine go_ops hΓ 3 rfl ?_
            refine eo_guard rfl ?_
            refine eo_o rfl (op_elemRowZ hΓ hx13 rfl rfl rfl rfl rfl rfl) ?_
            refine go_ops hΓ 1 rfl ?_
            refine eo_guard rfl ?_
            refine eo_o rfl (op_loadRowZ hΓ (enc := e_api_Turn) ((wi ((l.length : Int) - 1)).toNat) 2 hj15 rfl rfl rfl rfl (fun _ => rfl) (g := I x13.To) rfl) ?_
            refine go_ops hΓ 4 rfl ?_
            obtain rfl := Option.some.inj h14
            exact ⟨⟨rfl, rfl, rfl, rfl, rfl, rfl, trivial⟩, [], rfl, .inl rfl⟩
          · have h16 := cF hq10 hb
            refine go_ops hΓ 10 rfl ?_
            obtain rfl := Option.some.inj h16
            exact ⟨⟨rfl, rfl, rfl, rfl, rfl, rfl, trivial⟩, [], rfl, .inl rfl⟩
        · refine go_ops hΓ 2 rfl ?_
          refine j_cond rfl (fun hb => ?_) (fun hb => ?_)
          · have h17 := cT h11 hb
            obtain ⟨x18, hx18, h19⟩ := bi_ok h17
            have hj20 := getZ_at hx18
            refine go hΓ 6 rfl ?_
            refine eo_o rfl (op_elemRowZ hΓ hx18 rfl rfl rfl rfl rfl rfl) ?_
            refine go_ops hΓ 1 rfl ?_
            refine eo_storeRowZ hΓ (enc := e_api_Turn) (z' := (⟨x18.Who, x18.From, to⟩ : T_api_Turn)) ((wi ((l.length : Int) - 1)).toNat) 2 hj20 rfl rfl rfl rfl (fun _ => rfl) rfl rfl rfl rfl rfl rfl (Nat.le_of_ble_eq_true rfl) ?_
            refine eo_hp [.row 45 3 (l.set ((wi ((l.length : Int) - 1)).toNat) (⟨x18.Who, x18.From, to⟩ : T_api_Turn)).length ((l.set ((wi ((l.length : Int) - 1)).toNat) (⟨x18.Who, x18.From, to⟩ : T_api_Turn)).flatMap e_api_Turn), .row 45 3 ([] : List T_api_Turn).length (([] : List T_api_Turn).flatMap e_api_Turn)] rfl ?_
            refine eo_relen 0 (n' := (l.set ((wi ((l.length : Int) - 1)).toNat) (⟨x18.Who, x18.From, to⟩ : T_api_Turn)).length) rfl List.length_set.symm ?_
            refine go_ops hΓ 6 rfl ?_
            refine eo_shr 1 [] _ [.row 45 3 (l.set ((wi ((l.length : Int) - 1)).toNat) (⟨x18.Who, x18.From, to⟩ : T_api_Turn)).length ((l.set ((wi ((l.length : Int) - 1)).toNat) (⟨x18.Who, x18.From, to⟩ : T_api_Turn)).flatMap e_api_Turn), .dead] rfl rfl rfl (Nat.le_of_ble_eq_true rfl) ?_
            refine eo_move 0 1 [.dead, .row 45 3 (l.set ((wi ((l.length : Int) - 1)).toNat) (⟨x18.Who, x18.From, to⟩ : T_api_Turn)).length ((l.set ((wi ((l.length : Int) - 1)).toNat) (⟨x18.Who, x18.From, to⟩ : T_api_Turn)).flatMap e_api_Turn)] rfl rfl rfl rfl rfl rfl ?_
            refine go_ops hΓ 4 rfl ?_
            obtain rfl := Option.some.inj h19
            exact fin_objs hΓ [] (.inr rfl) rfl rfl rfl rfl (.inl rfl)
          · have h21 := cF h11 hb
            refine go hΓ 8 rfl ?_
            refine eo_build hΓ (gs := [S who, I v_from, I to]) rfl rfl rfl rfl rfl rfl rfl ?_
            refine eo_litT hΓ (enc := e_api_Turn) [(⟨who, v_from, to⟩ : T_api_Turn)] rfl rfl rfl rfl rfl rfl rfl rfl rfl rfl rfl rfl (Nat.le_of_ble_eq_true rfl) ?_
            obtain ⟨y22, hy22, h23⟩ := bi_ok h21
            refine eo_s (Nat.le_of_ble_eq_true rfl) (nblt.1 rfl) (ops_appendT hΓ (enc := e_api_Turn) (id := 0) (h2 := show Γ 45 = some ⟨_, 3, _, _⟩ from rfl) hy22 rfl rfl rfl rfl rfl rfl rfl rfl (fun _ => rfl) rfl) ?_
            refine go_ops hΓ 1 rfl ?_
            refine eo_shr 1 [] _ [.dead, .dead, .row 45 3 y22.length (y22.flatMap e_api_Turn)] rfl rfl rfl (Nat.le_of_ble_eq_true rfl) ?_
            refine eo_move 2 1 [.dead, .row 45 3 y22.length (y22.flatMap e_api_Turn), .dead] rfl rfl rfl rfl rfl rfl ?_
            refine go_ops hΓ 3 rfl ?_
            obtain rfl := Option.some.inj h23
            exact fin_objs hΓ [_] (.inr rfl) rfl rfl rfl rfl (.inr ⟨HB.mk rfl, rfl⟩)

theorem c_laneref1_UsedPaths {k : Nat} {l : List T_api_Sample} {gain : Int} {fresh : Int} {r : List T_api_Turn} (h : m_laneref1_UsedPaths k l gain fresh = some r) : EC Tryd.prog 36 [.d (Sl e_api_Sample l), I gain, I fresh] [] fun g hp' => g = .sl 0 r.length ∧ hp' = [.row 45 3 r.length (r.flatMap e_api_Turn)] := by
  refine ec_enter (Fr.of 0 _) Tryd.func36 rfl (Fr.of_ok _) (Nat.le_of_ble_eq_true rfl) fun _ => ?_
  refine go_in ?_
  unfold m_laneref1_UsedPaths at h
  refine go hΓ 7 rfl ?_
  refine eo_litRowT hΓ (enc := (eN .i64)) [345686400] rfl rfl rfl rfl rfl rfl rfl rfl rfl rfl rfl rfl (Nat.le_of_ble_eq_true rfl) ?_
  refine go_ops hΓ 11 rfl ?_
  obtain ⟨q4, hq4, h5⟩ := bi_ok h
  refine j_bound 0 rfl fun hb7 => ?_
  refine j_cutNZ [(0, .d (Sl e_api_Sample l)), (1, I gain), (2, I fresh), (7, .sl 0 q4.length)] [.row 3 1 q4.length (q4.flatMap (eN .i64))] ?_ ?_
  · refine go hΓ 1 rfl ?_
    refine j_rangeF l hq4 (fun i1 s2 => [(0, .d (Sl e_api_Sample l)), (1, I gain), (2, I fresh), (7, .sl 0 s2.length), (20, .d (Sl e_api_Sample l)), (21, I (l.length : Int)), (22, I (i1 : Int))]) (fun s2 => [.row 3 1 s2.length (s2.flatMap (eN .i64))]) ⟨⟨rfl, rfl, rfl, rfl, rfl, rfl, rfl, trivial⟩, [], rfl, .inl rfl⟩ (fun i1 x3 s2 y11 hx8 hlt hy9 => ?_) (?_)
    · refine go hΓ 6 rfl ?_
      refine j_condT rfl (decide_eq_true (Int.ofNat_lt.2 hlt)) ?_
      refine go hΓ 6 rfl ?_
      refine eo_o rfl (op_elemZ hΓ (enc := e_api_Sample) (getZ_nat hx8) rfl rfl rfl rfl rfl (fun _ => rfl)) ?_
      refine go_ops hΓ 1 rfl ?_
      refine eo_alloc hΓ rfl rfl rfl (Nat.le_of_ble_eq_true rfl) ?_
      refine eo_store hΓ rfl rfl rfl rfl rfl rfl rfl rfl (Nat.le_of_ble_eq_true rfl) ?_
      refine eo_hp [.row 3 1 s2.length (s2.flatMap (eN .i64)), .box 92 [I x3.At, S x3.Path, I x3.Millis]] rfl ?_
      refine go_ops hΓ 11 rfl ?_
      refine eo_litT hΓ (enc := (eN .i64)) [x3.At, (if 345686400 < (wi (x3.At + fresh)) then 345686400 else wi (x3.At + fresh))] rfl rfl rfl rfl rfl rfl rfl rfl rfl rfl rfl rfl (Nat.le_of_ble_eq_true rfl) ?_
      obtain ⟨y12, hy12, h13⟩ := bi_ok hy9
      refine eo_appendT hΓ (enc := (eN .i64)) hy12 rfl rfl rfl rfl rfl rfl rfl rfl rfl (fun _ => rfl) rfl rfl rfl rfl ?_
      refine go_ops hΓ 8 rfl ?_
      obtain rfl := Option.some.inj h13
      exact ⟨⟨rfl, rfl, rfl, rfl, rfl, rfl, get_eq rfl (w64_succ (Nat.lt_of_lt_of_le hlt hb7)), trivial⟩, [_], rfl, .inr ⟨HB.mk rfl, FB.mk rfl, (Nat.le_of_ble_eq_true rfl)⟩⟩
    · refine go hΓ 6 rfl ?_
      refine j_condF rfl (decide_eq_false (Int.lt_irrefl _)) ?_
      refine go hΓ 4 rfl ?_
      exact ⟨⟨rfl, rfl, rfl, rfl, trivial⟩, [], rfl, .inl rfl⟩
  · obtain ⟨y14, hy14, h15⟩ := bi_ok h5
    refine go hΓ 4 rfl ?_
    refine eo_callF [0] (.tup []) [.row 3 1 y14.length (y14.flatMap (eN .i64))] (callable Tryd.func63 rfl rfl) (c_slices_SortI hy14) rfl (Nat.le_of_ble_eq_true rfl) rfl rfl rfl rfl rfl rfl rfl rfl rfl rfl ?_
    obtain ⟨hg17, h16⟩ := gd_ok h15
    refine eo_relen 7 rfl (of_decide_eq_true hg17).symm ?_
    obtain ⟨y18, hy18, h19⟩ := bi_ok h16
    refine go_ops hΓ 5 rfl ?_
    refine eo_callF [0] (.sl 0 y18.length) [.row 3 1 y18.length (y18.flatMap (eN .i64))] (callable Tryd.func64 rfl rfl) (c_slices_Compact_int_int hy18) rfl (Nat.le_of_ble_eq_true rfl) rfl rfl rfl rfl rfl rfl rfl rfl rfl rfl ?_
    refine go_ops hΓ 5 rfl ?_
    refine eo_nilOwn (t := 0) 45 3 rfl (Nat.le_of_ble_eq_true rfl) ?_
    refine go_ops hΓ 16 rfl ?_
    obtain ⟨q23, hq23, h24⟩ := bi_ok h19
    obtain ⟨hb26, h27⟩ := gd_ok hq23
    replace hb26 := of_decide_eq_true hb26
    refine j_cutNZ [(10, .sl 1 q23.1.length)] [.row 3 1 y18.length (y18.flatMap (eN .i64)), .row 45 3 q23.1.length (q23.1.flatMap e_api_Turn)] ?_ ?_
    · refine go hΓ 1 rfl ?_
      refine j_rangeG h27 (fun i20 s21 => [(0, .d (Sl e_api_Sample l)), (1, I gain), (2, I fresh), (7, .sl 0 y18.length), (10, .sl 1 s21.1.length), (11, S s21.2), (43, I (wi ((y18.length : Int) - 1))), (44, I (i20 : Int))]) (fun s21 => [.row 3 1 y18.length (y18.flatMap (eN .i64)), .row 45 3 s21.1.length (s21.1.flatMap e_api_Turn)]) ⟨⟨rfl, rfl, rfl, rfl, rfl, rfl, rfl, rfl, trivial⟩, [], rfl, .inl rfl⟩ (fun i20 s21 y31 hlt hy29 => ?_) (fun hge => ?_)
      · refine go hΓ 6 rfl ?_
        refine j_condT rfl (decide_eq_true hlt) ?_
        obtain ⟨x32, hx32, h33⟩ := bi_ok hy29
        have hj34 := getZ_at hx32
        refine go hΓ 16 rfl ?_
        refine eo_o rfl (op_elemRowZ hΓ hx32 rfl rfl rfl rfl rfl rfl) ?_
        refine eo_o rfl (op_loadRowZ hΓ (enc := (eN .i64)) ((i20 : Int).toNat) 0 hj34 rfl rfl rfl rfl (fun _ => rfl) (g := I x32) rfl) ?_
        obtain ⟨y35, hy35, h36⟩ := bi_ok h33
        refine eo_callF [] (.map 2) [.row 3 1 y18.length (y18.flatMap (eN .i64)), .row 45 3 s21.1.length (s21.1.flatMap e_api_Turn), mOb kS false (eN .i64) y35] (callable Tryd.func67 rfl rfl) (c_laneref1_goodAt hy35) rfl (Nat.le_of_ble_eq_true rfl) rfl rfl rfl rfl rfl rfl rfl rfl rfl rfl ?_
        refine go_ops hΓ 12 rfl ?_
        refine eo_range hΓ (kv := kS) (agg := false) (enc := (eN .i64)) y35 rfl rfl rfl rfl rfl (Nat.le_of_ble_eq_true rfl) (fun mr37 bs38 cl39 hpm40 hbl41 hbn42 => ?_)
        refine eo_hp [.row 3 1 y18.length (y18.flatMap (eN .i64)), .row 45 3 s21.1.length (s21.1.flatMap e_api_Turn), mObS kS false (eN .i64) y35 (rawM kS (eN .i64) mr37 bs38 cl39), .iter 2 cl39 []] rfl ?_
        refine go_ops hΓ 2 rfl ?_
        obtain ⟨q48, hq48, h49⟩ := bi_ok h36
        refine go hΓ 1 rfl ?_
        refine j_rangeP hq48 hpm40 hbl41 hbn42 (fun s43 => [(0, .d (Sl e_api_Sample l)), (1, I gain), (2, I fresh), (7, .sl 0 y18.length), (10, .sl 1 s21.1.length), (11, S s21.2), (12, I (i20 : Int)), (13, .map 2), (14, S s43), (43, I (wi ((y18.length : Int) - 1))), (44, I (i20 : Int)), (55, .ptr 3 0)]) (fun sn45 s43 => [.row 3 1 y18.length (y18.flatMap (eN .i64)), .row 45 3 s21.1.length (s21.1.flatMap e_api_Turn), mObS kS false (eN .i64) y35 (rawM kS (eN .i64) mr37 bs38 cl39), .iter 2 cl39 sn45]) ⟨⟨rfl, rfl, rfl, rfl, rfl, rfl, rfl, rfl, rfl, rfl, rfl, rfl, trivial⟩, [], rfl, .inl rfl⟩ (fun sn45 s43 hdone50 hstep51 => ?_)
        refine go hΓ 2 rfl ?_
        refine eo_next (kv := kS) (agg := false) (enc := (eN .i64)) y35 mr37 bs38 cl39 sn45 [.row 3 1 y18.length (y18.flatMap (eN .i64)), .row 45 3 s21.1.length (s21.1.flatMap e_api_Turn), mOb kS false (eN .i64) y35, .dead] rfl rfl rfl rfl rfl (Nat.le_of_ble_eq_true rfl) (fun hdsn45 => ?_) (fun j46 x44 b47 hjsn45 hbsn45 hnsn45 => ?_)
        · have hqsn45 := hdone50 hdsn45
          subst hqsn45
          refine go_ops hΓ 14 rfl ?_
          refine eo_o rfl (op_lookupOk hΓ (kv := kS) (agg := false) (enc := (eN .i64)) y35 s21.2 (0 : Int) rfl rfl rfl rfl key_str rfl rfl rfl rfl rfl rfl rfl) ?_
          refine go_ops hΓ 12 rfl ?_
          refine o_cut 8 [(0, .d (Sl e_api_Sample l)), (1, I gain), (2, I fresh), (7, .sl 0 y18.length), (10, .sl 1 s21.1.length), (11, S s21.2), (12, I (i20 : Int)), (14, S q48), (43, I (wi ((y18.length : Int) - 1))), (44, I (i20 : Int)), (98, B (((mGet y35 s21.2).isSome) && (decide ((wi (((mGet y35 s21.2).getD 0) - ((mGet y35 q48).getD 0)) : Int) < gain))))] [.row 3 1 y18.length (y18.flatMap (eN .i64)), .row 45 3 s21.1.length (s21.1.flatMap e_api_Turn), mOb kS false (eN .i64) y35, .dead] ?_ ?_
          · refine eo_gsplit rfl rfl (fun hb => ?_) (fun hb => ?_)
            · refine go_ops hΓ 3 rfl ?_
              refine eo_guard rfl ?_
              refine eo_o rfl (op_lookup hΓ (kv := kS) (agg := false) (enc := (eN .i64)) y35 q48 (0 : Int) rfl rfl rfl rfl key_str rfl rfl rfl rfl rfl rfl rfl) ?_
              refine go_ops hΓ 5 rfl ?_
              exact ⟨⟨rfl, rfl, rfl, rfl, rfl, rfl, rfl, rfl, rfl, rfl, get_b rfl (and_t hb), trivial⟩, [], rfl, .inl rfl⟩
            · refine go_ops hΓ 9 rfl ?_
              exact ⟨⟨rfl, rfl, rfl, rfl, rfl, rfl, rfl, rfl, rfl, rfl, get_b rfl (and_f hb), trivial⟩, [], rfl, .inl rfl⟩
          · obtain ⟨q52, hq52, h53⟩ := bi_ok h49
            refine go_ops hΓ 3 rfl ?_
            refine j_cutNZ [(0, .d (Sl e_api_Sample l)), (1, I gain), (2, I fresh), (7, .sl 0 y18.length), (10, .sl 1 s21.1.length), (11, S q52), (12, I (i20 : Int)), (43, I (wi ((y18.length : Int) - 1))), (44, I (i20 : Int))] [.row 3 1 y18.length (y18.flatMap (eN .i64)), .row 45 3 s21.1.length (s21.1.flatMap e_api_Turn), mOb kS false (eN .i64) y35, .dead] ?_ ?_
            · refine j_cond rfl (fun hb => ?_) (fun hb => ?_)
              · have h54 := cT hq52 hb
                refine go hΓ 4 rfl ?_
                obtain rfl := Option.some.inj h54
                exact ⟨⟨rfl, rfl, rfl, rfl, rfl, rfl, rfl, rfl, rfl, trivial⟩, [], rfl, .inl rfl⟩
              · have h55 := cF hq52 hb
                refine go hΓ 1 rfl ?_
                obtain rfl := Option.some.inj h55
                exact ⟨⟨rfl, rfl, rfl, rfl, rfl, rfl, rfl, rfl, rfl, trivial⟩, [], rfl, .inl rfl⟩
            · refine go hΓ 1 rfl ?_
              refine j_drawE [.row 3 1 y18.length (y18.flatMap (eN .i64))] [5, 10] [11] [] hmix (by kernel_rfl) (by kernel_rfl) ⟨rfl, trivial⟩ (Nat.le_of_ble_eq_true rfl) ?_
              obtain ⟨x56, hx56, h57⟩ := bi_ok h53
              have hj58 := getZ_at hx56
              refine go_E hΓ 4 rfl ?_
              refine ge_q rfl (.inl rfl) (fun _ _ => qte_of_qt (qt_p (op_elemRowZ hΓ hx56 rfl rfl rfl rfl rfl rfl))) ?_
              refine ge_p rfl (fun hp hs => op_loadRowZ hΓ (enc := (eN .i64)) ((i20 : Int).toNat) 0 hj58 rfl rfl rfl (hs 0 _ rfl rfl) (fun _ => rfl) (g := I x56) rfl) rfl ?_
              obtain ⟨x59, hx59, h60⟩ := bi_ok h57
              have hj61 := getZ_at hx59
              refine go_E hΓ 3 rfl ?_
              refine ge_q rfl (.inl rfl) (fun _ _ => qte_of_qt (qt_p (op_elemRowZ hΓ hx59 rfl rfl rfl rfl rfl rfl))) ?_
              refine ge_p rfl (fun hp hs => op_loadRowZ hΓ (enc := (eN .i64)) ((wi ((i20 : Int) + 1)).toNat) 0 hj61 rfl rfl rfl (hs 0 _ rfl rfl) (fun _ => rfl) (g := I x59) rfl) rfl ?_
              obtain ⟨y62, hy62, h63⟩ := bi_ok h60
              refine ge_h [.row 3 1 y18.length (y18.flatMap (eN .i64)), .dead, mOb kS false (eN .i64) y35, .dead, .row 45 3 y62.length (y62.flatMap e_api_Turn)] rfl rfl rfl (st_st ⟨rfl, trivial⟩) (qte_callF [1] (.sl 4 y62.length) [.row 3 1 y18.length (y18.flatMap (eN .i64)), .dead, mOb kS false (eN .i64) y35, .dead, .row 45 3 y62.length (y62.flatMap e_api_Turn)] (callable Tryd.func55 rfl rfl) (c_laneref1_addTurn hy62) rfl rfl rfl rfl rfl rfl rfl rfl rfl rfl) ?_
              refine go_E hΓ 1 rfl ?_
              refine ge_fin ?_
              refine go hΓ 2 rfl ?_
              refine j_move 4 1 [.row 3 1 y18.length (y18.flatMap (eN .i64)), .row 45 3 y62.length (y62.flatMap e_api_Turn), mOb kS false (eN .i64) y35, .dead, .dead] rfl rfl rfl rfl rfl rfl ?_
              refine go hΓ 4 rfl ?_
              obtain rfl := Option.some.inj h63
              exact ⟨⟨rfl, rfl, rfl, rfl, rfl, rfl, rfl, get_eq rfl (w64_succ (by omega)), trivial⟩, [_, _, _], rfl, .inr ⟨HB.mk rfl, FB.mk rfl, (Nat.le_of_ble_eq_true rfl)⟩⟩
        · obtain ⟨s64, h65⟩ := hstep51 j46 x44 b47 hjsn45 hbsn45 hnsn45
          have hssn45 := h65
          refine go_ops hΓ 10 rfl ?_
          refine eo_o rfl (op_entry (kv := kS) (agg := false) (enc := (eN .i64)) y35 mr37 bs38 cl39 sn45 hjsn45 hbsn45 rfl rfl rfl rfl (fun _ => rfl)) ?_
          refine go_ops hΓ 11 rfl ?_
          refine o_cut 6 [(0, .d (Sl e_api_Sample l)), (1, I gain), (2, I fresh), (7, .sl 0 y18.length), (10, .sl 1 s21.1.length), (11, S s21.2), (12, I (i20 : Int)), (13, .map 2), (14, S s43), (15, S x44.1), (16, I x44.2), (43, I (wi ((y18.length : Int) - 1))), (44, I (i20 : Int)), (55, .ptr 3 0), (69, B (((s43 : Str) == []) || (decide ((x44.2 : Int) < ((mGet y35 s43).getD 0)))))] [.row 3 1 y18.length (y18.flatMap (eN .i64)), .row 45 3 s21.1.length (s21.1.flatMap e_api_Turn), mObS kS false (eN .i64) y35 (rawM kS (eN .i64) mr37 bs38 cl39), .iter 2 cl39 (sn45 ++ [b47])] ?_ ?_
          · refine eo_gsplit rfl rfl (fun hb => ?_) (fun hb => ?_)
            · refine go_ops hΓ 7 rfl ?_
              exact ⟨⟨rfl, rfl, rfl, rfl, rfl, rfl, rfl, rfl, rfl, rfl, rfl, rfl, rfl, rfl, get_b rfl (or_t hb), trivial⟩, [], rfl, .inl rfl⟩
            · refine go_ops hΓ 3 rfl ?_
              refine eo_guard rfl ?_
              refine eo_o rfl (op_lookup hΓ (kv := kS) (agg := false) (enc := (eN .i64)) y35 s43 (0 : Int) rfl rfl rfl rfl key_str rfl rfl rfl rfl rfl rfl rfl) ?_
              refine go_ops hΓ 3 rfl ?_
              exact ⟨⟨rfl, rfl, rfl, rfl, rfl, rfl, rfl, rfl, rfl, rfl, rfl, rfl, rfl, rfl, get_b rfl (or_f hb), trivial⟩, [], rfl, .inl rfl⟩
          · refine go_ops hΓ 1 rfl ?_
            refine o_cut 11 [(0, .d (Sl e_api_Sample l)), (1, I gain), (2, I fresh), (7, .sl 0 y18.length), (10, .sl 1 s21.1.length), (11, S s21.2), (12, I (i20 : Int)), (13, .map 2), (14, S s43), (15, S x44.1), (43, I (wi ((y18.length : Int) - 1))), (44, I (i20 : Int)), (55, .ptr 3 0), (81, B ((((s43 : Str) == []) || (decide ((x44.2 : Int) < ((mGet y35 s43).getD 0)))) || (((x44.2 : Int) == ((mGet y35 s43).getD 0)) && (Op.bytesLess x44.1 s43))))] [.row 3 1 y18.length (y18.flatMap (eN .i64)), .row 45 3 s21.1.length (s21.1.flatMap e_api_Turn), mObS kS false (eN .i64) y35 (rawM kS (eN .i64) mr37 bs38 cl39), .iter 2 cl39 (sn45 ++ [b47])] ?_ ?_
            · refine eo_gsplit rfl rfl (fun hb => ?_) (fun hb => ?_)
              · refine go_ops hΓ 12 rfl ?_
                exact ⟨⟨rfl, rfl, rfl, rfl, rfl, rfl, rfl, rfl, rfl, rfl, rfl, rfl, rfl, get_b rfl (or_t hb), trivial⟩, [], rfl, .inl rfl⟩
              · refine go_ops hΓ 3 rfl ?_
                refine eo_guard rfl ?_
                refine eo_o rfl (op_lookup hΓ (kv := kS) (agg := false) (enc := (eN .i64)) y35 s43 (0 : Int) rfl rfl rfl rfl key_str rfl rfl rfl rfl rfl rfl rfl) ?_
                refine go_ops hΓ 2 rfl ?_
                refine o_cut 4 [(0, .d (Sl e_api_Sample l)), (1, I gain), (2, I fresh), (7, .sl 0 y18.length), (10, .sl 1 s21.1.length), (11, S s21.2), (12, I (i20 : Int)), (13, .map 2), (14, S s43), (15, S x44.1), (43, I (wi ((y18.length : Int) - 1))), (44, I (i20 : Int)), (55, .ptr 3 0), (70, B false), (80, B (((x44.2 : Int) == ((mGet y35 s43).getD 0)) && (Op.bytesLess x44.1 s43)))] [.row 3 1 y18.length (y18.flatMap (eN .i64)), .row 45 3 s21.1.length (s21.1.flatMap e_api_Turn), mObS kS false (eN .i64) y35 (rawM kS (eN .i64) mr37 bs38 cl39), .iter 2 cl39 (sn45 ++ [b47])] ?_ ?_
                · refine eo_gsplit rfl rfl (fun hb => ?_) (fun hb => ?_)
                  · refine go_ops hΓ 5 rfl ?_
                    exact ⟨⟨rfl, rfl, rfl, rfl, rfl, rfl, rfl, rfl, rfl, rfl, rfl, rfl, rfl, rfl, get_b rfl (and_t hb), trivial⟩, [], rfl, .inl rfl⟩
                  · refine go_ops hΓ 5 rfl ?_
                    exact ⟨⟨rfl, rfl, rfl, rfl, rfl, rfl, rfl, rfl, rfl, rfl, rfl, rfl, rfl, rfl, get_b rfl (and_f hb), trivial⟩, [], rfl, .inl rfl⟩
                · refine go_ops hΓ 2 rfl ?_
                  exact ⟨⟨rfl, rfl, rfl, rfl, rfl, rfl, rfl, rfl, rfl, rfl, rfl, rfl, rfl, get_b rfl (or_f hb), trivial⟩, [], rfl, .inl rfl⟩
            · refine go_ops hΓ 2 rfl ?_
              refine j_cond rfl (fun hb => ?_) (fun hb => ?_)
              · have h66 := cT h65 hb
                refine go hΓ 5 rfl ?_
                obtain rfl := Option.some.inj h66
                exact ⟨j46, x44, b47, _, hjsn45, hbsn45, hnsn45, hssn45, ⟨⟨rfl, rfl, rfl, rfl, rfl, rfl, rfl, rfl, rfl, rfl, rfl, rfl, trivial⟩, [], rfl, .inl rfl⟩⟩
              · have h67 := cF h65 hb
                refine go hΓ 2 rfl ?_
                obtain rfl := Option.some.inj h67
                exact ⟨j46, x44, b47, _, hjsn45, hbsn45, hnsn45, hssn45, ⟨⟨rfl, rfl, rfl, rfl, rfl, rfl, rfl, rfl, rfl, rfl, rfl, rfl, trivial⟩, [], rfl, .inl rfl⟩⟩
      · refine go hΓ 6 rfl ?_
        refine j_condF rfl (decide_eq_false hge) ?_
        refine go hΓ 4 rfl ?_
        exact ⟨⟨rfl, trivial⟩, [], rfl, .inl rfl⟩
    · refine go hΓ 5 rfl ?_
      refine eo_shr 0 [] _ [.dead, .row 45 3 q23.1.length (q23.1.flatMap e_api_Turn)] rfl rfl rfl (Nat.le_of_ble_eq_true rfl) ?_
      refine eo_move 1 0 [.row 45 3 q23.1.length (q23.1.flatMap e_api_Turn), .dead] rfl rfl rfl rfl rfl rfl ?_
      refine go_ops hΓ 3 rfl ?_
      obtain rfl := Option.some.inj h24
      exact fin_objs hΓ [_] (.inr rfl) rfl rfl rfl rfl (.inr ⟨HB.mk rfl, rfl⟩)

theorem c_slices_Equal_api_Turn_api_Turn {s1 : List T_api_Turn} {s2 : List T_api_Turn} {r : Bool} (h : m_slices_Equal_api_Turn_api_Turn s1 s2 = some r) : Pure Tryd.prog 20 [.d (Sl e_api_Turn s1), .d (Sl e_api_Turn s2)] (B r) := by
  refine Pure.enter (Fr.of 0 _) Tryd.func20 rfl (Fr.of_ok _) rfl rfl ?_
  refine go_in ?_
  unfold m_slices_Equal_api_Turn_api_Turn at h
  refine go hΓ 15 rfl ?_
  refine j_cond rfl (fun hb => ?_) (fun hb => ?_)
  · have h1 := cT h hb
    refine go hΓ 7 rfl ?_
    obtain rfl := Option.some.inj h1
    exact fin_pure hΓ (.inr rfl) rfl rfl
  · have h2 := cF h hb
    refine go hΓ 10 rfl ?_
    obtain ⟨q6, hq6, h7⟩ := bi_ok h2
    refine j_bound 0 rfl fun hb9 => ?_
    refine j_cutEZ (R := fun a8 => q6 = .go a8) (fun a8 => []) (fun a8 => []) ?_ ?_
    · refine go hΓ 1 rfl ?_
      refine j_range s1 hq6 (fun i3 s4 => [(0, .d (Sl e_api_Turn s1)), (1, .d (Sl e_api_Turn s2)), (12, I (s1.length : Int)), (13, I (i3 : Int))]) (fun s4 => []) ⟨⟨rfl, rfl, rfl, rfl, trivial⟩, [], rfl, .inl rfl⟩ (fun i3 x5 s4 y13 hx10 hlt hy11 hout12 => ?_) (fun s4 hgo => ?_)
      · refine go hΓ 6 rfl ?_
        refine j_condT rfl (decide_eq_true (Int.ofNat_lt.2 hlt)) ?_
        refine go hΓ 11 rfl ?_
        refine j_draw hmix (by kernel_rfl) ?_
        refine go hΓ 2 rfl ?_
        refine gl_o rfl (op_elemZ hΓ (enc := e_api_Turn) (getZ_nat hx10) rfl rfl rfl rfl rfl (fun _ => rfl)) ?_
        obtain ⟨x14, hx14, h15⟩ := bi_ok hy11
        refine go_draw hΓ 3 rfl ?_
        refine gl_o rfl (op_elemZ hΓ (enc := e_api_Turn) hx14 rfl rfl rfl rfl rfl (fun _ => rfl)) ?_
        refine go_draw hΓ 1 rfl ?_
        refine gl_o rfl (op_neS hΓ [45] (b := (((x5.Who : Str) == x14.Who) && (((x5.From : Int) == x14.From) && (((x5.To : Int) == x14.To) && true)))) (by kernel_rfl) (by kernel_rfl) rfl rfl rfl) ?_
        refine go_draw hΓ 2 rfl ?_
        refine j_cond rfl (fun hb => ?_) (fun hb => ?_)
        · have h16 := cT h15 hb
          refine go hΓ 8 rfl ?_
          obtain ⟨v17, hv17, h18⟩ := bi_ok h16
          obtain rfl := Option.some.inj h18
          obtain rfl := hout12 _ rfl
          obtain rfl := Option.some.inj h7
          refine go hΓ 4 rfl ?_
          obtain rfl := Option.some.inj hv17
          exact fin_pure hΓ (.inr rfl) rfl rfl
        · have h19 := cF h15 hb
          refine go hΓ 7 rfl ?_
          obtain rfl := Option.some.inj h19
          exact ⟨_, rfl, ⟨⟨rfl, rfl, rfl, get_eq rfl (w64_succ (Nat.lt_of_lt_of_le hlt hb9)), trivial⟩, [], rfl, .inl rfl⟩⟩
      · subst hgo
        refine go hΓ 6 rfl ?_
        refine j_condF rfl (decide_eq_false (Int.lt_irrefl _)) ?_
        refine go hΓ 4 rfl ?_
        exact ⟨_, rfl, ⟨trivial, [], rfl, .inl rfl⟩⟩
    · intro a8 ha
      subst ha
      replace h7 := goI_l h7
      refine go hΓ 7 rfl ?_
      obtain rfl := Option.some.inj h7
      exact fin_pure hΓ (.inr rfl) rfl rfl

theorem c_lanelaw1_PathsUsed {k : Nat} {l : List Int} {r : Bool} (h : m_lanelaw1_PathsUsed k l = some r) : Pure Tryd.prog 5 [.d (Sl (eN .i64) l)] (B r) := by
  refine Pure.enter (Fr.of 0 _) Tryd.func5 rfl (Fr.of_ok _) rfl rfl ?_
  refine go_in ?_
  unfold m_lanelaw1_PathsUsed at h
  refine go hΓ 8 rfl ?_
  refine eo_build hΓ (gs := [.d (Sl (eN .i64) l), I 0]) rfl rfl rfl rfl rfl rfl rfl ?_
  refine eo_box rfl rfl rfl rfl (Nat.le_of_ble_eq_true rfl) ?_
  obtain ⟨y1, hy1, h2⟩ := bi_ok h
  refine go_ops hΓ 7 rfl ?_
  refine eo_callF [0] (I y1.1) [.box 25 [.d (Sl (eN .i64) y1.2.L), I y1.2.v_at]] (callable Tryd.func7 rfl rfl) (c_lanemake_Stream_Range hy1) rfl (Nat.le_of_ble_eq_true rfl) rfl rfl rfl rfl rfl rfl rfl rfl rfl rfl ?_
  obtain ⟨y3, hy3, h4⟩ := bi_ok h2
  refine eo_callF [0] (.sl 1 y3.1.length) [.box 25 [.d (Sl (eN .i64) y3.2.L), I y3.2.v_at], .row 92 3 y3.1.length (y3.1.flatMap e_api_Sample)] (callable Tryd.func31 rfl rfl) (c_lanemake_Stream_Samples hy3) rfl (Nat.le_of_ble_eq_true rfl) rfl rfl rfl rfl rfl rfl rfl rfl rfl rfl ?_
  refine go_ops hΓ 1 rfl ?_
  refine eo_litT hΓ (enc := (eN .i64)) [0, 1, 3, 5, 20, -1] rfl rfl rfl rfl rfl rfl rfl rfl rfl rfl rfl rfl (Nat.le_of_ble_eq_true rfl) ?_
  obtain ⟨y5, hy5, h6⟩ := bi_ok h4
  refine eo_callF [0] (I y5.1) [.box 25 [.d (Sl (eN .i64) y5.2.L), I y5.2.v_at], .row 92 3 y3.1.length (y3.1.flatMap e_api_Sample)] (callable Tryd.func8 rfl rfl) (c_lanemake_Stream_Pick hy5) rfl (Nat.le_of_ble_eq_true rfl) rfl rfl rfl rfl rfl rfl rfl rfl rfl rfl ?_
  refine go_ops hΓ 1 rfl ?_
  refine eo_litT hΓ (enc := (eN .i64)) [1, 5, 10, 30, 0, 345686400, 345686401] rfl rfl rfl rfl rfl rfl rfl rfl rfl rfl rfl rfl (Nat.le_of_ble_eq_true rfl) ?_
  obtain ⟨y7, hy7, h8⟩ := bi_ok h6
  refine eo_callF [0] (I y7.1) [.box 25 [.d (Sl (eN .i64) y7.2.L), I y7.2.v_at], .row 92 3 y3.1.length (y3.1.flatMap e_api_Sample)] (callable Tryd.func8 rfl rfl) (c_lanemake_Stream_Pick hy7) rfl (Nat.le_of_ble_eq_true rfl) rfl rfl rfl rfl rfl rfl rfl rfl rfl rfl ?_
  obtain ⟨y9, hy9, h10⟩ := bi_ok h8
  refine go_ops hΓ 10 rfl ?_
  refine eo_shr 1 [4, 16, 24] _ [.box 25 [.d (Sl (eN .i64) y7.2.L), I y7.2.v_at], .dead] rfl rfl rfl (Nat.le_of_ble_eq_true rfl) ?_
  refine eo_callP (callable Tryd.func32 rfl rfl) (c_route_Used hy9) rfl (Nat.le_of_ble_eq_true rfl) rfl rfl rfl rfl rfl ?_
  obtain ⟨y11, hy11, h12⟩ := bi_ok h10
  refine go_ops hΓ 10 rfl ?_
  refine eo_callP (callable Tryd.func33 rfl rfl) (c_laneref1_SamplesFault hy11) rfl (Nat.le_of_ble_eq_true rfl) rfl rfl rfl rfl rfl ?_
  obtain ⟨y13, hy13, h14⟩ := bi_ok h12
  refine go_ops hΓ 7 rfl ?_
  refine eo_callP (callable Tryd.func34 rfl rfl) (c_route_CheckSamples hy13) rfl (Nat.le_of_ble_eq_true rfl) rfl rfl rfl rfl rfl ?_
  refine go_ops hΓ 4 rfl ?_
  refine j_cond rfl (fun hb => ?_) (fun hb => ?_)
  · have h15 := cT h14 hb
    refine go hΓ 7 rfl ?_
    obtain rfl := Option.some.inj h15
    exact fin_pure hΓ (.inr rfl) rfl rfl
  · have h16 := cF h14 hb
    obtain ⟨y17, hy17, h18⟩ := bi_ok h16
    refine go hΓ 6 rfl ?_
    refine eo_callP (callable Tryd.func15 rfl rfl) (c_laneref1_GainFault hy17) rfl (Nat.le_of_ble_eq_true rfl) rfl rfl rfl rfl rfl ?_
    obtain ⟨y19, hy19, h20⟩ := bi_ok h18
    refine go_ops hΓ 1 rfl ?_
    refine eo_callP (callable Tryd.func35 rfl rfl) (c_laneref1_FreshFault hy19) rfl (Nat.le_of_ble_eq_true rfl) rfl rfl rfl rfl rfl ?_
    refine eo_litT hΓ (enc := (eN .i64)) [y11, y17, y19] rfl rfl rfl rfl rfl rfl rfl rfl rfl rfl rfl rfl (Nat.le_of_ble_eq_true rfl) ?_
    obtain ⟨y21, hy21, h22⟩ := bi_ok h20
    refine eo_callP (callable Tryd.func14 rfl rfl) (c_cmp_Or_api_Errno hy21) rfl (Nat.le_of_ble_eq_true rfl) rfl rfl rfl rfl rfl ?_
    refine go_ops hΓ 10 rfl ?_
    refine j_cond rfl (fun hb => ?_) (fun hb => ?_)
    · have h23 := cT h22 hb
      refine go hΓ 6 rfl ?_
      refine o_cut 4 [(2, B false), (52, B (((y9.2 : Int) == y21) && (((y9.1.length : Int) : Int) == 0)))] [.box 25 [.d (Sl (eN .i64) y7.2.L), I y7.2.v_at], .dead] ?_ ?_
      · refine eo_gsplit rfl rfl (fun hb => ?_) (fun hb => ?_)
        · refine go_ops hΓ 5 rfl ?_
          exact ⟨⟨rfl, get_b rfl (and_t hb), trivial⟩, [], rfl, .inl rfl⟩
        · refine go_ops hΓ 5 rfl ?_
          exact ⟨⟨rfl, get_b rfl (and_f hb), trivial⟩, [], rfl, .inl rfl⟩
      · refine go_ops hΓ 1 rfl ?_
        obtain ⟨q24, hq24, h25⟩ := bi_ok h23
        refine o_cut 2 [(2, B false), (55, B q24)] [.box 25 [.d (Sl (eN .i64) y7.2.L), I y7.2.v_at], .dead] ?_ ?_
        · refine eo_gsplit rfl rfl (fun hb => ?_) (fun hb => ?_)
          · have h26 := cT hq24 hb
            obtain ⟨y27, hy27, h28⟩ := bi_ok h26
            refine eo_guard rfl ?_
            refine eo_callP (callable Tryd.func22 rfl rfl) (c_lanelaw1_routed hy27) rfl (Nat.le_of_ble_eq_true rfl) rfl rfl rfl rfl rfl ?_
            refine go_ops hΓ 2 rfl ?_
            obtain rfl := Option.some.inj h28
            exact ⟨⟨rfl, rfl, trivial⟩, [], rfl, .inl rfl⟩
          · have h29 := cF hq24 hb
            refine go_ops hΓ 3 rfl ?_
            obtain rfl := Option.some.inj h29
            exact ⟨⟨rfl, rfl, trivial⟩, [], rfl, .inl rfl⟩
        · refine go_ops hΓ 5 rfl ?_
          obtain rfl := Option.some.inj h25
          exact fin_pure hΓ (.inr rfl) rfl rfl
    · have h30 := cF h22 hb
      refine go hΓ 7 rfl ?_
      obtain ⟨q31, hq31, h32⟩ := bi_ok h30
      refine o_cut 7 [(2, B false), (65, B q31)] [.box 25 [.d (Sl (eN .i64) y7.2.L), I y7.2.v_at], .dead] ?_ ?_
      · refine eo_gsplit rfl rfl (fun hb => ?_) (fun hb => ?_)
        · have h33 := cT hq31 hb
          obtain ⟨y34, hy34, h35⟩ := bi_ok h33
          refine go_ops hΓ 4 rfl ?_
          refine eo_guard rfl ?_
          refine eo_callP (callable Tryd.func36 rfl rfl) (Pure.rows (c_laneref1_UsedPaths hy34) rfl rfl) rfl (Nat.le_of_ble_eq_true rfl) rfl rfl rfl rfl rfl ?_
          obtain ⟨y36, hy36, h37⟩ := bi_ok h35
          refine eo_guard rfl ?_
          refine eo_callP (callable Tryd.func20 rfl rfl) (c_slices_Equal_api_Turn_api_Turn hy36) rfl (Nat.le_of_ble_eq_true rfl) rfl rfl rfl rfl rfl ?_
          refine go_ops hΓ 2 rfl ?_
          obtain rfl := Option.some.inj h37
          exact ⟨⟨rfl, rfl, trivial⟩, [], rfl, .inl rfl⟩
        · have h38 := cF hq31 hb
          refine go_ops hΓ 8 rfl ?_
          obtain rfl := Option.some.inj h38
          exact ⟨⟨rfl, rfl, trivial⟩, [], rfl, .inl rfl⟩
      · refine go_ops hΓ 1 rfl ?_
        obtain ⟨q39, hq39, h40⟩ := bi_ok h32
        refine o_cut 2 [(2, B false), (68, B q39)] [.box 25 [.d (Sl (eN .i64) y7.2.L), I y7.2.v_at], .dead] ?_ ?_
        · refine eo_gsplit rfl rfl (fun hb => ?_) (fun hb => ?_)
          · have h41 := cT hq39 hb
            obtain ⟨y42, hy42, h43⟩ := bi_ok h41
            refine eo_guard rfl ?_
            refine eo_callP (callable Tryd.func22 rfl rfl) (c_lanelaw1_routed hy42) rfl (Nat.le_of_ble_eq_true rfl) rfl rfl rfl rfl rfl ?_
            refine go_ops hΓ 2 rfl ?_
            obtain rfl := Option.some.inj h43
            exact ⟨⟨rfl, rfl, trivial⟩, [], rfl, .inl rfl⟩
          · have h44 := cF hq39 hb
            refine go_ops hΓ 3 rfl ?_
            obtain rfl := Option.some.inj h44
            exact ⟨⟨rfl, rfl, trivial⟩, [], rfl, .inl rfl⟩
        · refine go_ops hΓ 4 rfl ?_
          obtain rfl := Option.some.inj h40
          exact fin_pure hΓ (.inr rfl) rfl rfl

end Go.Proofs.YtnjnmkpgedkffaaDoor
