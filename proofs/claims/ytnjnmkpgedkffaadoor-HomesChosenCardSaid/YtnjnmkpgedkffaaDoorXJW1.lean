/-
  The functions compute their models.
-/
import Derived.Test.YtnjnmkpgedkffaaDoorXJM
import Derived.Test.YtnjnmkpgedkffaaDoorGt
import Derived.Test.YtnjnmkpgedkffaaDoorStrR
set_option linter.unusedVariables false
set_option linter.unusedSimpArgs false
set_option maxRecDepth 100000
namespace Go.Proofs.YtnjnmkpgedkffaaDoor
open Go.Gk
abbrev e_lanemake_Stream (x : T_lanemake_Stream) : List D := [Sl (eN .i64) x.L, .v (.int .i64 x.v_at)]
abbrev e_api_Probe (x : T_api_Probe) : List D := [.v (.int .i64 x.At), .v (.string ⟨x.Node.toArray⟩), .v (.string ⟨x.Relay.toArray⟩), .v (.int .i64 x.Millis)]
abbrev e_api_Turn (x : T_api_Turn) : List D := [.v (.string ⟨x.Who.toArray⟩), .v (.int .i64 x.From), .v (.int .i64 x.To)]
abbrev e_api_Link (x : T_api_Link) : List D := [.v (.string ⟨x.A.toArray⟩), .v (.string ⟨x.v_B.toArray⟩), .v (.int .i64 x.Millis)]
abbrev e_route_step (x : T_route_step) : List D := [.v (.string ⟨x.to.toArray⟩), .v (.int .i64 x.millis)]
abbrev e_route_far (x : T_route_far) : List D := [.v (.int .i64 x.millis), .v (.int .i64 x.links)]
abbrev e_laneref1_trail (x : T_laneref1_trail) : List D := [Sl eS x.relays, .v (.int .i64 x.millis)]
abbrev arX (l0 : List (Nat × (List (Str × Int)))) : List Ar := arG (fM kS false (eN .i64)) l0
theorem c_lanemake_Below {x : Int} {n : Int} {r : Int} (h : m_lanemake_Below x n = some r) : Pure Tryd.prog 68 [I x, I n] (I r) := by
  refine Pure.enter (Fr.of 0 _) Tryd.func68 rfl (Fr.of_ok _) rfl rfl ?_
  refine go_in ?_
  unfold m_lanemake_Below at h
  refine go hΓ 12 rfl ?_
  refine j_cond rfl (fun hb => ?_) (fun hb => ?_)
  · have h1 := cT h hb
    refine go hΓ 7 rfl ?_
    obtain rfl := Option.some.inj h1
    exact fin_pure hΓ (.inr rfl) rfl rfl
  · have h2 := cF h hb
    obtain ⟨y3, hy3, h4⟩ := bi_ok h2
    refine go hΓ 6 rfl ?_
    refine eo_o rfl (op_remZ hy3 rfl rfl) ?_
    obtain ⟨q5, hq5, h6⟩ := bi_ok h4
    refine go_ops hΓ 10 rfl ?_
    refine j_cutNZ [(0, I q5)] [] ?_ ?_
    · refine j_cond rfl (fun hb => ?_) (fun hb => ?_)
      · have h7 := cT hq5 hb
        refine go hΓ 6 rfl ?_
        obtain rfl := Option.some.inj h7
        exact ⟨⟨rfl, trivial⟩, [], rfl, .inl rfl⟩
      · have h8 := cF hq5 hb
        refine go hΓ 1 rfl ?_
        obtain rfl := Option.some.inj h8
        exact ⟨⟨rfl, trivial⟩, [], rfl, .inl rfl⟩
    · refine go hΓ 8 rfl ?_
      obtain rfl := Option.some.inj h6
      exact fin_pure hΓ (.inr rfl) rfl rfl
theorem c_lanemake_Stream_Next {s : T_lanemake_Stream} {n : Int} {r : Int × T_lanemake_Stream} (h : m_lanemake_Stream_Next s n = some r) : EC Tryd.prog 39 [.ptr 0 0, I n] [.box 25 [.d (Sl (eN .i64) s.L), I s.v_at]] fun g hp' => g = I r.1 ∧ hp' = [.box 25 [.d (Sl (eN .i64) r.2.L), I r.2.v_at]] := by
  refine ec_enter (Fr.of 0 _) Tryd.func39 rfl (Fr.of_ok _) (Nat.le_of_ble_eq_true rfl) fun _ => ?_
  refine go_in ?_
  unfold m_lanemake_Stream_Next at h
  refine go hΓ 14 rfl ?_
  refine eo_store hΓ rfl rfl rfl rfl rfl rfl rfl rfl (Nat.le_of_ble_eq_true rfl) ?_
  refine eo_hp [.box 25 [.d (Sl (eN .i64) s.L), I (wi (s.v_at + 1))]] rfl ?_
  refine go_ops hΓ 13 rfl ?_
  refine j_cond rfl (fun hb => ?_) (fun hb => ?_)
  · have h1 := cT h hb
    obtain ⟨y2, hy2, h3⟩ := bi_ok h1
    refine go hΓ 8 rfl ?_
    refine eo_callP (callable Tryd.func68 rfl rfl) (c_lanemake_Below hy2) rfl (Nat.le_of_ble_eq_true rfl) rfl rfl rfl rfl rfl ?_
    refine go_ops hΓ 5 rfl ?_
    obtain rfl := Option.some.inj h3
    exact fin_objs hΓ [] (.inr rfl) rfl rfl rfl rfl (.inl rfl)
  · have h4 := cF h hb
    refine go hΓ 3 rfl ?_
    refine j_draw hmix (by kernel_rfl) ?_
    obtain ⟨y5, hy5, h6⟩ := bi_ok h4
    refine go hΓ 10 rfl ?_
    refine gl_o rfl (op_remZ hy5 rfl rfl) ?_
    refine go_draw hΓ 4 rfl ?_
    refine j_draw hmix (by kernel_rfl) ?_
    obtain ⟨y7, hy7, h8⟩ := bi_ok h6
    refine go hΓ 10 rfl ?_
    refine gl_o rfl (op_quoZ hy7 rfl rfl) ?_
    obtain ⟨x9, hx9, h10⟩ := bi_ok h8
    refine go_draw hΓ 10 rfl ?_
    refine eo_o rfl (op_elemZ hΓ (enc := (eN .i64)) hx9 rfl rfl rfl rfl rfl (fun _ => rfl)) ?_
    obtain ⟨y11, hy11, h12⟩ := bi_ok h10
    refine go_ops hΓ 1 rfl ?_
    refine eo_callP (callable Tryd.func68 rfl rfl) (c_lanemake_Below hy11) rfl (Nat.le_of_ble_eq_true rfl) rfl rfl rfl rfl rfl ?_
    obtain ⟨y13, hy13, h14⟩ := bi_ok h12
    refine go_ops hΓ 6 rfl ?_
    refine eo_callP (callable Tryd.func68 rfl rfl) (c_lanemake_Below hy13) rfl (Nat.le_of_ble_eq_true rfl) rfl rfl rfl rfl rfl ?_
    refine go_ops hΓ 4 rfl ?_
    obtain rfl := Option.some.inj h14
    exact fin_objs hΓ [] (.inr rfl) rfl rfl rfl rfl (.inl rfl)
theorem c_lanemake_Stream_Range {s : T_lanemake_Stream} {low : Int} {high : Int} {r : Int × T_lanemake_Stream} (h : m_lanemake_Stream_Range s low high = some r) : EC Tryd.prog 7 [.ptr 0 0, I low, I high] [.box 25 [.d (Sl (eN .i64) s.L), I s.v_at]] fun g hp' => g = I r.1 ∧ hp' = [.box 25 [.d (Sl (eN .i64) r.2.L), I r.2.v_at]] := by
  refine ec_enter (Fr.of 0 _) Tryd.func7 rfl (Fr.of_ok _) (Nat.le_of_ble_eq_true rfl) fun _ => ?_
  refine go_in ?_
  unfold m_lanemake_Stream_Range at h
  refine go hΓ 13 rfl ?_
  refine j_cond rfl (fun hb => ?_) (fun hb => ?_)
  · have h1 := cT h hb
    refine go hΓ 8 rfl ?_
    obtain rfl := Option.some.inj h1
    exact fin_objs hΓ [] (.inr rfl) rfl rfl rfl rfl (.inl rfl)
  · have h2 := cF h hb
    obtain ⟨y3, hy3, h4⟩ := bi_ok h2
    refine go hΓ 10 rfl ?_
    refine eo_callF [0] (I y3.1) [.box 25 [.d (Sl (eN .i64) y3.2.L), I y3.2.v_at]] (callable Tryd.func39 rfl rfl) (c_lanemake_Stream_Next hy3) rfl (Nat.le_of_ble_eq_true rfl) rfl rfl rfl rfl rfl rfl rfl rfl rfl rfl ?_
    refine go_ops hΓ 5 rfl ?_
    obtain rfl := Option.some.inj h4
    exact fin_objs hΓ [] (.inr rfl) rfl rfl rfl rfl (.inl rfl)
theorem c_lanemake_Stream_Flip {s : T_lanemake_Stream} {n : Int} {r : Bool × T_lanemake_Stream} (h : m_lanemake_Stream_Flip s n = some r) : EC Tryd.prog 37 [.ptr 0 0, I n] [.box 25 [.d (Sl (eN .i64) s.L), I s.v_at]] fun g hp' => g = B r.1 ∧ hp' = [.box 25 [.d (Sl (eN .i64) r.2.L), I r.2.v_at]] := by
  refine ec_enter (Fr.of 0 _) Tryd.func37 rfl (Fr.of_ok _) (Nat.le_of_ble_eq_true rfl) fun _ => ?_
  refine go_in ?_
  unfold m_lanemake_Stream_Flip at h
  obtain ⟨y1, hy1, h2⟩ := bi_ok h
  refine go hΓ 9 rfl ?_
  refine eo_callF [0] (I y1.1) [.box 25 [.d (Sl (eN .i64) y1.2.L), I y1.2.v_at]] (callable Tryd.func39 rfl rfl) (c_lanemake_Stream_Next hy1) rfl (Nat.le_of_ble_eq_true rfl) rfl rfl rfl rfl rfl rfl rfl rfl rfl rfl ?_
  refine go_ops hΓ 5 rfl ?_
  obtain rfl := Option.some.inj h2
  exact fin_objs hΓ [] (.inr rfl) rfl rfl rfl rfl (.inl rfl)
theorem c_lanemake_Stream_Pick {s : T_lanemake_Stream} {l : List Int} {r : Int × T_lanemake_Stream} (h : m_lanemake_Stream_Pick s l = some r) : EC Tryd.prog 8 [.ptr 0 0, .d (Sl (eN .i64) l)] [.box 25 [.d (Sl (eN .i64) s.L), I s.v_at]] fun g hp' => g = I r.1 ∧ hp' = [.box 25 [.d (Sl (eN .i64) r.2.L), I r.2.v_at]] := by
  refine ec_enter (Fr.of 0 _) Tryd.func8 rfl (Fr.of_ok _) (Nat.le_of_ble_eq_true rfl) fun _ => ?_
  refine go_in ?_
  unfold m_lanemake_Stream_Pick at h
  obtain ⟨y1, hy1, h2⟩ := bi_ok h
  refine go hΓ 11 rfl ?_
  refine eo_callF [0] (I y1.1) [.box 25 [.d (Sl (eN .i64) y1.2.L), I y1.2.v_at]] (callable Tryd.func39 rfl rfl) (c_lanemake_Stream_Next hy1) rfl (Nat.le_of_ble_eq_true rfl) rfl rfl rfl rfl rfl rfl rfl rfl rfl rfl ?_
  obtain ⟨x3, hx3, h4⟩ := bi_ok h2
  refine eo_o rfl (op_elemZ hΓ (enc := (eN .i64)) hx3 rfl rfl rfl rfl rfl (fun _ => rfl)) ?_
  refine go_ops hΓ 5 rfl ?_
  obtain rfl := Option.some.inj h4
  exact fin_objs hΓ [] (.inr rfl) rfl rfl rfl rfl (.inl rfl)
theorem c_lanemake_Stream_Odd {s : T_lanemake_Stream} {low : Int} {high : Int} {r : Int × T_lanemake_Stream} (h : m_lanemake_Stream_Odd s low high = some r) : EC Tryd.prog 38 [.ptr 0 0, I low, I high] [.box 25 [.d (Sl (eN .i64) s.L), I s.v_at]] fun g hp' => g = I r.1 ∧ hp' = [.box 25 [.d (Sl (eN .i64) r.2.L), I r.2.v_at]] := by
  refine ec_enter (Fr.of 0 _) Tryd.func38 rfl (Fr.of_ok _) (Nat.le_of_ble_eq_true rfl) fun _ => ?_
  refine go_in ?_
  unfold m_lanemake_Stream_Odd at h
  obtain ⟨y1, hy1, h2⟩ := bi_ok h
  refine go hΓ 9 rfl ?_
  refine eo_callF [0] (B y1.1) [.box 25 [.d (Sl (eN .i64) y1.2.L), I y1.2.v_at]] (callable Tryd.func37 rfl rfl) (c_lanemake_Stream_Flip hy1) rfl (Nat.le_of_ble_eq_true rfl) rfl rfl rfl rfl rfl rfl rfl rfl rfl rfl ?_
  refine go_ops hΓ 2 rfl ?_
  refine j_cond rfl (fun hb => ?_) (fun hb => ?_)
  · have h3 := cT h2 hb
    refine go hΓ 9 rfl ?_
    refine eo_litT hΓ (enc := (eN .i64)) [wi (low - 1), wi (high + 1), low, high, -1099511627776, 1099511627776] rfl rfl rfl rfl rfl rfl rfl rfl rfl rfl rfl rfl (Nat.le_of_ble_eq_true rfl) ?_
    obtain ⟨y4, hy4, h5⟩ := bi_ok h3
    refine eo_callF [0] (I y4.1) [.box 25 [.d (Sl (eN .i64) y4.2.L), I y4.2.v_at]] (callable Tryd.func8 rfl rfl) (c_lanemake_Stream_Pick hy4) rfl (Nat.le_of_ble_eq_true rfl) rfl rfl rfl rfl rfl rfl rfl rfl rfl rfl ?_
    refine go_ops hΓ 5 rfl ?_
    obtain rfl := Option.some.inj h5
    exact fin_objs hΓ [] (.inr rfl) rfl rfl rfl rfl (.inl rfl)
  · have h6 := cF h2 hb
    obtain ⟨y7, hy7, h8⟩ := bi_ok h6
    refine go hΓ 7 rfl ?_
    refine eo_callF [0] (I y7.1) [.box 25 [.d (Sl (eN .i64) y7.2.L), I y7.2.v_at]] (callable Tryd.func7 rfl rfl) (c_lanemake_Stream_Range hy7) rfl (Nat.le_of_ble_eq_true rfl) rfl rfl rfl rfl rfl rfl rfl rfl rfl rfl ?_
    refine go_ops hΓ 4 rfl ?_
    obtain rfl := Option.some.inj h8
    exact fin_objs hΓ [] (.inr rfl) rfl rfl rfl rfl (.inl rfl)
theorem c_lanemake_Stream_Some {s : T_lanemake_Stream} {l : List Str} {r : Str × T_lanemake_Stream} (h : m_lanemake_Stream_Some s l = some r) : EC Tryd.prog 9 [.ptr 0 0, .d (Sl eS l)] [.box 25 [.d (Sl (eN .i64) s.L), I s.v_at]] fun g hp' => g = S r.1 ∧ hp' = [.box 25 [.d (Sl (eN .i64) r.2.L), I r.2.v_at]] := by
  refine ec_enter (Fr.of 0 _) Tryd.func9 rfl (Fr.of_ok _) (Nat.le_of_ble_eq_true rfl) fun _ => ?_
  refine go_in ?_
  unfold m_lanemake_Stream_Some at h
  obtain ⟨y1, hy1, h2⟩ := bi_ok h
  refine go hΓ 11 rfl ?_
  refine eo_callF [0] (I y1.1) [.box 25 [.d (Sl (eN .i64) y1.2.L), I y1.2.v_at]] (callable Tryd.func39 rfl rfl) (c_lanemake_Stream_Next hy1) rfl (Nat.le_of_ble_eq_true rfl) rfl rfl rfl rfl rfl rfl rfl rfl rfl rfl ?_
  obtain ⟨x3, hx3, h4⟩ := bi_ok h2
  refine eo_o rfl (op_elemZ hΓ (enc := eS) hx3 rfl rfl rfl rfl rfl (fun _ => rfl)) ?_
  refine go_ops hΓ 5 rfl ?_
  obtain rfl := Option.some.inj h4
  exact fin_objs hΓ [] (.inr rfl) rfl rfl rfl rfl (.inl rfl)
set_option maxHeartbeats 8000000 in
theorem c_lanemake_Stream_Probes {s : T_lanemake_Stream} {many : Int} {r : (List T_api_Probe) × T_lanemake_Stream} (h : m_lanemake_Stream_Probes s many = some r) : EC Tryd.prog 6 [.ptr 0 0, I many] [.box 25 [.d (Sl (eN .i64) s.L), I s.v_at]] fun g hp' => g = .sl 1 r.1.length ∧ hp' = [.box 25 [.d (Sl (eN .i64) r.2.L), I r.2.v_at], .row 67 4 r.1.length (r.1.flatMap e_api_Probe)] := by
  refine ec_enterC (Fr.of 0 _) Tryd.func6 rfl (Fr.of_ok _) (Nat.le_of_ble_eq_true rfl) fun _ => ?_
  refine go_in ?_
  unfold m_lanemake_Stream_Probes at h
  refine go hΓ 7 rfl ?_
  refine eo_nilOwn (t := 0) 67 4 rfl (Nat.le_of_ble_eq_true rfl) ?_
  refine go_ops hΓ 9 rfl ?_
  obtain ⟨q4, hq4, h5⟩ := bi_ok h
  obtain ⟨hb7, h8⟩ := gd_ok hq4
  replace hb7 := of_decide_eq_true hb7
  refine j_cutNZ [(0, .ptr 0 0), (5, .sl 1 q4.2.length)] [.box 25 [.d (Sl (eN .i64) q4.1.L), I q4.1.v_at], .row 67 4 q4.2.length (q4.2.flatMap e_api_Probe)] ?_ ?_
  · refine go hΓ 1 rfl ?_
    refine j_rangeG h8 (fun i1 s2 => [(0, .ptr 0 0), (5, .sl 1 s2.2.length), (11, I many), (12, I (i1 : Int))]) (fun s2 => [.box 25 [.d (Sl (eN .i64) s2.1.L), I s2.1.v_at], .row 67 4 s2.2.length (s2.2.flatMap e_api_Probe)]) ⟨⟨rfl, rfl, rfl, rfl, trivial⟩, [], rfl, .inl rfl⟩ (fun i1 s2 y12 hlt hy10 => ?_) (fun hge => ?_)
    · refine go hΓ 6 rfl ?_
      refine j_condT rfl (decide_eq_true hlt) ?_
      refine go hΓ 12 rfl ?_
      refine eo_litT hΓ (enc := eS) [[110, 97], [110, 98]] rfl rfl rfl rfl rfl rfl rfl rfl rfl rfl rfl rfl (Nat.le_of_ble_eq_true rfl) ?_
      refine go_ops hΓ 4 rfl ?_
      obtain ⟨q16, hq16, h17⟩ := bi_ok hy10
      refine j_bound 15 rfl fun hb19 => ?_
      refine j_cutNZ [(0, .ptr 0 0), (5, .sl 1 q16.2.length), (11, I many), (12, I (i1 : Int))] [.box 25 [.d (Sl (eN .i64) q16.1.L), I q16.1.v_at], .row 67 4 q16.2.length (q16.2.flatMap e_api_Probe)] ?_ ?_
      · refine go hΓ 1 rfl ?_
        refine j_rangeF [[110, 97], [110, 98]] hq16 (fun i13 s14 => [(0, .ptr 0 0), (5, .sl 1 s14.2.length), (6, I (i1 : Int)), (11, I many), (12, I (i1 : Int)), (15, .d (Sl eS [[110, 97], [110, 98]])), (16, I ([[110, 97], [110, 98]].length : Int)), (17, I (i13 : Int))]) (fun s14 => [.box 25 [.d (Sl (eN .i64) s14.1.L), I s14.1.v_at], .row 67 4 s14.2.length (s14.2.flatMap e_api_Probe)]) ⟨⟨rfl, rfl, rfl, rfl, rfl, rfl, rfl, rfl, trivial⟩, [], rfl, .inl rfl⟩ (fun i13 x15 s14 y23 hx20 hlt hy21 => ?_) (?_)
        · refine go hΓ 6 rfl ?_
          refine j_condT rfl (decide_eq_true (Int.ofNat_lt.2 hlt)) ?_
          refine go hΓ 6 rfl ?_
          refine eo_o rfl (op_elemZ hΓ (enc := eS) (getZ_nat hx20) rfl rfl rfl rfl rfl (fun _ => rfl)) ?_
          refine go_ops hΓ 6 rfl ?_
          refine eo_litT hΓ (enc := eS) [[102, 114, 97], [108, 111, 110], [110, 121, 99]] rfl rfl rfl rfl rfl rfl rfl rfl rfl rfl rfl rfl (Nat.le_of_ble_eq_true rfl) ?_
          refine go_ops hΓ 4 rfl ?_
          obtain ⟨q27, hq27, h28⟩ := bi_ok hy21
          refine j_bound 21 rfl fun hb30 => ?_
          refine j_cutNZ [(0, .ptr 0 0), (5, .sl 1 q27.2.length), (6, I (i1 : Int)), (11, I many), (12, I (i1 : Int)), (15, .d (Sl eS [[110, 97], [110, 98]])), (16, I ([[110, 97], [110, 98]].length : Int)), (17, I (i13 : Int))] [.box 25 [.d (Sl (eN .i64) q27.1.L), I q27.1.v_at], .row 67 4 q27.2.length (q27.2.flatMap e_api_Probe)] ?_ ?_
          · refine go hΓ 1 rfl ?_
            refine j_rangeF [[102, 114, 97], [108, 111, 110], [110, 121, 99]] hq27 (fun i24 s25 => [(0, .ptr 0 0), (5, .sl 1 s25.2.length), (6, I (i1 : Int)), (8, S x15), (11, I many), (12, I (i1 : Int)), (15, .d (Sl eS [[110, 97], [110, 98]])), (16, I ([[110, 97], [110, 98]].length : Int)), (17, I (i13 : Int)), (21, .d (Sl eS [[102, 114, 97], [108, 111, 110], [110, 121, 99]])), (22, I ([[102, 114, 97], [108, 111, 110], [110, 121, 99]].length : Int)), (23, I (i24 : Int))]) (fun s25 => [.box 25 [.d (Sl (eN .i64) s25.1.L), I s25.1.v_at], .row 67 4 s25.2.length (s25.2.flatMap e_api_Probe)]) ⟨⟨rfl, rfl, rfl, rfl, rfl, rfl, rfl, rfl, rfl, rfl, rfl, rfl, trivial⟩, [], rfl, .inl rfl⟩ (fun i24 x26 s25 y34 hx31 hlt hy32 => ?_) (?_)
            · refine go hΓ 6 rfl ?_
              refine j_condT rfl (decide_eq_true (Int.ofNat_lt.2 hlt)) ?_
              refine go hΓ 6 rfl ?_
              refine eo_o rfl (op_elemZ hΓ (enc := eS) (getZ_nat hx31) rfl rfl rfl rfl rfl (fun _ => rfl)) ?_
              obtain ⟨y35, hy35, h36⟩ := bi_ok hy32
              refine go_ops hΓ 7 rfl ?_
              refine eo_callF [0] (B y35.1) [.box 25 [.d (Sl (eN .i64) y35.2.L), I y35.2.v_at], .row 67 4 s25.2.length (s25.2.flatMap e_api_Probe)] (callable Tryd.func37 rfl rfl) (c_lanemake_Stream_Flip hy35) rfl (Nat.le_of_ble_eq_true rfl) rfl rfl rfl rfl rfl rfl rfl rfl rfl rfl ?_
              refine go_ops hΓ 2 rfl ?_
              refine j_cond rfl (fun hb => ?_) (fun hb => ?_)
              · have h37 := cT h36 hb
                refine go hΓ 7 rfl ?_
                refine eo_litT hΓ (enc := (eN .i64)) [-1, 5, 10, 12, 20, 20, 25, 40] rfl rfl rfl rfl rfl rfl rfl rfl rfl rfl rfl rfl (Nat.le_of_ble_eq_true rfl) ?_
                obtain ⟨y38, hy38, h39⟩ := bi_ok h37
                refine eo_callF [0] (I y38.1) [.box 25 [.d (Sl (eN .i64) y38.2.L), I y38.2.v_at], .row 67 4 s25.2.length (s25.2.flatMap e_api_Probe)] (callable Tryd.func8 rfl rfl) (c_lanemake_Stream_Pick hy38) rfl (Nat.le_of_ble_eq_true rfl) rfl rfl rfl rfl rfl rfl rfl rfl rfl rfl ?_
                refine eo_build hΓ (gs := [I (wi (10 * (i1 : Int))), S x15, S x26, I y38.1]) rfl rfl rfl rfl rfl rfl rfl ?_
                refine eo_litT hΓ (enc := e_api_Probe) [(⟨wi (10 * (i1 : Int)), x15, x26, y38.1⟩ : T_api_Probe)] rfl rfl rfl rfl rfl rfl rfl rfl rfl rfl rfl rfl (Nat.le_of_ble_eq_true rfl) ?_
                obtain ⟨y40, hy40, h41⟩ := bi_ok h39
                refine eo_appendT hΓ (enc := e_api_Probe) hy40 rfl rfl rfl rfl rfl rfl rfl rfl rfl (fun _ => rfl) rfl rfl rfl rfl ?_
                refine go_ops hΓ 8 rfl ?_
                obtain rfl := Option.some.inj h41
                exact ⟨⟨rfl, rfl, rfl, rfl, rfl, rfl, rfl, rfl, rfl, rfl, rfl, get_eq rfl (w64_succ (Nat.lt_of_lt_of_le hlt hb30)), trivial⟩, [], rfl, .inl rfl⟩
              · have h42 := cF h36 hb
                refine go hΓ 7 rfl ?_
                obtain rfl := Option.some.inj h42
                exact ⟨⟨rfl, rfl, rfl, rfl, rfl, rfl, rfl, rfl, rfl, rfl, rfl, get_eq rfl (w64_succ (Nat.lt_of_lt_of_le hlt hb30)), trivial⟩, [], rfl, .inl rfl⟩
            · refine go hΓ 6 rfl ?_
              refine j_condF rfl (decide_eq_false (Int.lt_irrefl _)) ?_
              refine go hΓ 4 rfl ?_
              exact ⟨⟨rfl, rfl, rfl, rfl, rfl, rfl, rfl, rfl, trivial⟩, [], rfl, .inl rfl⟩
          · refine go hΓ 6 rfl ?_
            obtain rfl := Option.some.inj h28
            exact ⟨⟨rfl, rfl, rfl, rfl, rfl, rfl, rfl, get_eq rfl (w64_succ (Nat.lt_of_lt_of_le hlt hb19)), trivial⟩, [], rfl, .inl rfl⟩
        · refine go hΓ 6 rfl ?_
          refine j_condF rfl (decide_eq_false (Int.lt_irrefl _)) ?_
          refine go hΓ 4 rfl ?_
          exact ⟨⟨rfl, rfl, rfl, rfl, trivial⟩, [], rfl, .inl rfl⟩
      · refine go hΓ 6 rfl ?_
        obtain rfl := Option.some.inj h17
        exact ⟨⟨rfl, rfl, rfl, get_eq rfl (w64_succ (by omega)), trivial⟩, [], rfl, .inl rfl⟩
    · refine go hΓ 6 rfl ?_
      refine j_condF rfl (decide_eq_false hge) ?_
      refine go hΓ 4 rfl ?_
      exact ⟨⟨rfl, rfl, trivial⟩, [], rfl, .inl rfl⟩
  · obtain ⟨y43, hy43, h44⟩ := bi_ok h5
    refine go hΓ 5 rfl ?_
    refine eo_callF [0] (B y43.1) [.box 25 [.d (Sl (eN .i64) y43.2.L), I y43.2.v_at], .row 67 4 q4.2.length (q4.2.flatMap e_api_Probe)] (callable Tryd.func37 rfl rfl) (c_lanemake_Stream_Flip hy43) rfl (Nat.le_of_ble_eq_true rfl) rfl rfl rfl rfl rfl rfl rfl rfl rfl rfl ?_
    obtain ⟨q45, hq45, h46⟩ := bi_ok h44
    refine go_ops hΓ 2 rfl ?_
    refine j_cutNZ [(5, .sl 1 q45.2.length)] [.box 25 [.d (Sl (eN .i64) q45.1.L), I q45.1.v_at], .row 67 4 q45.2.length (q45.2.flatMap e_api_Probe)] ?_ ?_
    · refine j_cond rfl (fun hb => ?_) (fun hb => ?_)
      · have h47 := cT hq45 hb
        obtain ⟨y48, hy48, h49⟩ := bi_ok h47
        refine go hΓ 3 rfl ?_
        refine eo_callF [0] (I y48.1) [.box 25 [.d (Sl (eN .i64) y48.2.L), I y48.2.v_at], .row 67 4 q4.2.length (q4.2.flatMap e_api_Probe)] (callable Tryd.func38 rfl rfl) (c_lanemake_Stream_Odd hy48) rfl (Nat.le_of_ble_eq_true rfl) rfl rfl rfl rfl rfl rfl rfl rfl rfl rfl ?_
        refine go_ops hΓ 1 rfl ?_
        refine eo_litT hΓ (enc := eS) [[], [110, 97]] rfl rfl rfl rfl rfl rfl rfl rfl rfl rfl rfl rfl (Nat.le_of_ble_eq_true rfl) ?_
        obtain ⟨y50, hy50, h51⟩ := bi_ok h49
        refine eo_callF [0] (S y50.1) [.box 25 [.d (Sl (eN .i64) y50.2.L), I y50.2.v_at], .row 67 4 q4.2.length (q4.2.flatMap e_api_Probe)] (callable Tryd.func9 rfl rfl) (c_lanemake_Stream_Some hy50) rfl (Nat.le_of_ble_eq_true rfl) rfl rfl rfl rfl rfl rfl rfl rfl rfl rfl ?_
        refine go_ops hΓ 1 rfl ?_
        refine eo_litT hΓ (enc := eS) [[102, 114, 97], [65]] rfl rfl rfl rfl rfl rfl rfl rfl rfl rfl rfl rfl (Nat.le_of_ble_eq_true rfl) ?_
        obtain ⟨y52, hy52, h53⟩ := bi_ok h51
        refine eo_callF [0] (S y52.1) [.box 25 [.d (Sl (eN .i64) y52.2.L), I y52.2.v_at], .row 67 4 q4.2.length (q4.2.flatMap e_api_Probe)] (callable Tryd.func9 rfl rfl) (c_lanemake_Stream_Some hy52) rfl (Nat.le_of_ble_eq_true rfl) rfl rfl rfl rfl rfl rfl rfl rfl rfl rfl ?_
        obtain ⟨y54, hy54, h55⟩ := bi_ok h53
        refine go_ops hΓ 1 rfl ?_
        refine eo_callF [0] (I y54.1) [.box 25 [.d (Sl (eN .i64) y54.2.L), I y54.2.v_at], .row 67 4 q4.2.length (q4.2.flatMap e_api_Probe)] (callable Tryd.func38 rfl rfl) (c_lanemake_Stream_Odd hy54) rfl (Nat.le_of_ble_eq_true rfl) rfl rfl rfl rfl rfl rfl rfl rfl rfl rfl ?_
        refine eo_build hΓ (gs := [I y48.1, S y50.1, S y52.1, I y54.1]) rfl rfl rfl rfl rfl rfl rfl ?_
        refine eo_litT hΓ (enc := e_api_Probe) [(⟨y48.1, y50.1, y52.1, y54.1⟩ : T_api_Probe)] rfl rfl rfl rfl rfl rfl rfl rfl rfl rfl rfl rfl (Nat.le_of_ble_eq_true rfl) ?_
        obtain ⟨y56, hy56, h57⟩ := bi_ok h55
        refine eo_appendT hΓ (enc := e_api_Probe) hy56 rfl rfl rfl rfl rfl rfl rfl rfl rfl (fun _ => rfl) rfl rfl rfl rfl ?_
        refine go_ops hΓ 2 rfl ?_
        obtain rfl := Option.some.inj h57
        exact ⟨⟨rfl, trivial⟩, [], rfl, .inl rfl⟩
      · have h58 := cF hq45 hb
        refine go hΓ 1 rfl ?_
        obtain rfl := Option.some.inj h58
        exact ⟨⟨rfl, trivial⟩, [], rfl, .inl rfl⟩
    · refine go hΓ 8 rfl ?_
      refine cv_here ?_
      obtain rfl := Option.some.inj h46
      exact fin_objs hΓ [] (.inr rfl) rfl rfl rfl rfl (.inl rfl)
theorem c_kit_IsMoment {n : Int} {r : Bool} (h : m_kit_IsMoment n = some r) : Pure Tryd.prog 50 [I n] (B r) := by
  refine Pure.enter (Fr.of 0 _) Tryd.func50 rfl (Fr.of_ok _) rfl rfl ?_
  refine go_in ?_
  unfold m_kit_IsMoment at h
  refine go hΓ 10 rfl ?_
  refine o_cut 3 [(2, B false), (8, B ((decide ((n : Int) ≥ 0)) && (decide ((n : Int) < 345686400))))] [] ?_ ?_
  · refine eo_gsplit rfl rfl (fun hb => ?_) (fun hb => ?_)
    · refine go_ops hΓ 4 rfl ?_
      exact ⟨⟨rfl, get_b rfl (and_t hb), trivial⟩, [], rfl, .inl rfl⟩
    · refine go_ops hΓ 4 rfl ?_
      exact ⟨⟨rfl, get_b rfl (and_f hb), trivial⟩, [], rfl, .inl rfl⟩
  · refine go_ops hΓ 4 rfl ?_
    obtain rfl := Option.some.inj h
    exact fin_pure hΓ (.inr rfl) rfl rfl
set_option maxHeartbeats 8000000 in
theorem c_kit_IsKey {k : Nat} {s : Str} {r : Bool} (h : m_kit_IsKey k s = some r) : Pure Tryd.prog 51 [S s] (B r) := by
  refine Pure.enter (Fr.of 0 _) Tryd.func51 rfl (Fr.of_ok _) rfl rfl ?_
  refine go_in ?_
  unfold m_kit_IsKey at h
  refine go hΓ 11 rfl ?_
  obtain ⟨q4, hq4, h5⟩ := bi_ok h
  refine j_cutEZ (R := fun a6 => q4 = .inl a6) (fun a6 => [(0, S s)]) (fun a6 => []) ?_ ?_
  · refine go hΓ 1 rfl ?_
    refine j_loop hq4 (fun s2 => [(0, S s), (3, I s2)]) (fun s2 => []) ⟨⟨rfl, rfl, trivial⟩, [], rfl, .inl rfl⟩ (fun s2 y10 hy8 hout9 => ?_)
    refine go hΓ 9 rfl ?_
    refine j_cond rfl (fun hb => ?_) (fun hb => ?_)
    · have h11 := cT hy8 hb
      obtain ⟨c12, hc12, h13⟩ := bi_ok h11
      refine go hΓ 8 rfl ?_
      refine eo_o rfl (op_byteZ hΓ hc12 rfl rfl rfl rfl) ?_
      refine go_ops hΓ 8 rfl ?_
      refine o_cut 3 [(0, S s), (3, I s2), (4, .d (.v (.int .u8 (c12.toNat : Int)))), (19, B ((decide (((c12.toNat : Int) : Int) ≥ 97)) && (decide (((c12.toNat : Int) : Int) ≤ 122))))] [] ?_ ?_
      · refine eo_gsplit rfl rfl (fun hb => ?_) (fun hb => ?_)
        · refine go_ops hΓ 4 rfl ?_
          exact ⟨⟨rfl, rfl, rfl, get_b rfl (and_t hb), trivial⟩, [], rfl, .inl rfl⟩
        · refine go_ops hΓ 4 rfl ?_
          exact ⟨⟨rfl, rfl, rfl, get_b rfl (and_f hb), trivial⟩, [], rfl, .inl rfl⟩
      · refine go_ops hΓ 1 rfl ?_
        refine o_cut 19 [(0, S s), (3, I s2), (39, B (((decide (((c12.toNat : Int) : Int) ≥ 97)) && (decide (((c12.toNat : Int) : Int) ≤ 122))) || ((decide ((s2 : Int) > 0)) && ((((decide (((c12.toNat : Int) : Int) ≥ 48)) && (decide (((c12.toNat : Int) : Int) ≤ 57))) || (((c12.toNat : Int) : Int) == 45)) || (((c12.toNat : Int) : Int) == 95)))))] [] ?_ ?_
        · refine eo_gsplit rfl rfl (fun hb => ?_) (fun hb => ?_)
          · refine go_ops hΓ 20 rfl ?_
            exact ⟨⟨rfl, rfl, get_b rfl (or_t hb), trivial⟩, [], rfl, .inl rfl⟩
          · refine go_ops hΓ 3 rfl ?_
            refine o_cut 15 [(0, S s), (3, I s2), (20, B false), (38, B ((decide ((s2 : Int) > 0)) && ((((decide (((c12.toNat : Int) : Int) ≥ 48)) && (decide (((c12.toNat : Int) : Int) ≤ 57))) || (((c12.toNat : Int) : Int) == 45)) || (((c12.toNat : Int) : Int) == 95))))] [] ?_ ?_
            · refine eo_gsplit rfl rfl (fun hb => ?_) (fun hb => ?_)
              · refine go_ops hΓ 3 rfl ?_
                refine o_cut 3 [(0, S s), (3, I s2), (4, .d (.v (.int .u8 (c12.toNat : Int)))), (20, B false), (23, B true), (29, B ((decide (((c12.toNat : Int) : Int) ≥ 48)) && (decide (((c12.toNat : Int) : Int) ≤ 57))))] [] ?_ ?_
                · refine eo_gsplit rfl rfl (fun hb => ?_) (fun hb => ?_)
                  · refine go_ops hΓ 4 rfl ?_
                    exact ⟨⟨rfl, rfl, rfl, rfl, rfl, get_b rfl (and_t hb), trivial⟩, [], rfl, .inl rfl⟩
                  · refine go_ops hΓ 4 rfl ?_
                    exact ⟨⟨rfl, rfl, rfl, rfl, rfl, get_b rfl (and_f hb), trivial⟩, [], rfl, .inl rfl⟩
                · refine go_ops hΓ 1 rfl ?_
                  refine o_cut 3 [(0, S s), (3, I s2), (4, .d (.v (.int .u8 (c12.toNat : Int)))), (20, B false), (23, B true), (33, B (((decide (((c12.toNat : Int) : Int) ≥ 48)) && (decide (((c12.toNat : Int) : Int) ≤ 57))) || (((c12.toNat : Int) : Int) == 45)))] [] ?_ ?_
                  · refine eo_gsplit rfl rfl (fun hb => ?_) (fun hb => ?_)
                    · refine go_ops hΓ 4 rfl ?_
                      exact ⟨⟨rfl, rfl, rfl, rfl, rfl, get_b rfl (or_t hb), trivial⟩, [], rfl, .inl rfl⟩
                    · refine go_ops hΓ 4 rfl ?_
                      exact ⟨⟨rfl, rfl, rfl, rfl, rfl, get_b rfl (or_f hb), trivial⟩, [], rfl, .inl rfl⟩
                  · refine go_ops hΓ 1 rfl ?_
                    refine o_cut 3 [(0, S s), (3, I s2), (20, B false), (23, B true), (37, B ((((decide (((c12.toNat : Int) : Int) ≥ 48)) && (decide (((c12.toNat : Int) : Int) ≤ 57))) || (((c12.toNat : Int) : Int) == 45)) || (((c12.toNat : Int) : Int) == 95)))] [] ?_ ?_
                    · refine eo_gsplit rfl rfl (fun hb => ?_) (fun hb => ?_)
                      · refine go_ops hΓ 4 rfl ?_
                        exact ⟨⟨rfl, rfl, rfl, rfl, get_b rfl (or_t hb), trivial⟩, [], rfl, .inl rfl⟩
                      · refine go_ops hΓ 4 rfl ?_
                        exact ⟨⟨rfl, rfl, rfl, rfl, get_b rfl (or_f hb), trivial⟩, [], rfl, .inl rfl⟩
                    · refine go_ops hΓ 2 rfl ?_
                      exact ⟨⟨rfl, rfl, rfl, get_b rfl (and_t hb), trivial⟩, [], rfl, .inl rfl⟩
              · refine go_ops hΓ 16 rfl ?_
                exact ⟨⟨rfl, rfl, rfl, get_b rfl (and_f hb), trivial⟩, [], rfl, .inl rfl⟩
            · refine go_ops hΓ 2 rfl ?_
              exact ⟨⟨rfl, rfl, get_b rfl (or_f hb), trivial⟩, [], rfl, .inl rfl⟩
        · refine go_ops hΓ 3 rfl ?_
          refine j_cond rfl (fun hb => ?_) (fun hb => ?_)
          · have h14 := cT h13 hb
            refine go hΓ 8 rfl ?_
            obtain ⟨v15, hv15, h16⟩ := bi_ok h14
            obtain rfl := Option.some.inj h16
            obtain rfl := hout9 _ rfl
            obtain rfl := Option.some.inj h5
            refine go hΓ 4 rfl ?_
            obtain rfl := Option.some.inj hv15
            exact fin_pure hΓ (.inr rfl) rfl rfl
          · have h17 := cF h13 hb
            refine go hΓ 8 rfl ?_
            obtain rfl := Option.some.inj h17
            exact ⟨_, rfl, ⟨⟨rfl, rfl, trivial⟩, [], rfl, .inl rfl⟩⟩
    · have h18 := cF hy8 hb
      refine go hΓ 4 rfl ?_
      obtain rfl := Option.some.inj h18
      obtain rfl := hout9 _ rfl
      exact ⟨_, rfl, ⟨⟨rfl, trivial⟩, [], rfl, .inl rfl⟩⟩
  · intro a6 ha
    subst ha
    replace h5 := orI_l h5
    refine go hΓ 6 rfl ?_
    refine o_cut 4 [(47, B ((!((s : Str) == [])) && (decide (((s.length : Int) : Int) ≤ 40))))] [] ?_ ?_
    · refine eo_gsplit rfl rfl (fun hb => ?_) (fun hb => ?_)
      · refine go_ops hΓ 5 rfl ?_
        exact ⟨⟨get_b rfl (and_t hb), trivial⟩, [], rfl, .inl rfl⟩
      · refine go_ops hΓ 5 rfl ?_
        exact ⟨⟨get_b rfl (and_f hb), trivial⟩, [], rfl, .inl rfl⟩
    · refine go_ops hΓ 4 rfl ?_
      obtain rfl := Option.some.inj h5
      exact fin_pure hΓ (.inr rfl) rfl rfl
theorem c_kit_Outside {n : Int} {low : Int} {high : Int} {r : Bool} (h : m_kit_Outside n low high = some r) : Pure Tryd.prog 52 [I n, I low, I high] (B r) := by
  refine Pure.enter (Fr.of 0 _) Tryd.func52 rfl (Fr.of_ok _) rfl rfl ?_
  refine go_in ?_
  unfold m_kit_Outside at h
  refine go hΓ 11 rfl ?_
  refine o_cut 4 [(6, B false), (14, B ((decide ((n : Int) < low)) || (decide ((n : Int) > high))))] [] ?_ ?_
  · refine eo_gsplit rfl rfl (fun hb => ?_) (fun hb => ?_)
    · refine go_ops hΓ 5 rfl ?_
      exact ⟨⟨rfl, get_b rfl (or_t hb), trivial⟩, [], rfl, .inl rfl⟩
    · refine go_ops hΓ 5 rfl ?_
      exact ⟨⟨rfl, get_b rfl (or_f hb), trivial⟩, [], rfl, .inl rfl⟩
  · refine go_ops hΓ 4 rfl ?_
    obtain rfl := Option.some.inj h
    exact fin_pure hΓ (.inr rfl) rfl rfl
theorem c_cmp_isNaN_int {x : Int} {r : Bool} (h : m_cmp_isNaN_int x = some r) : Pure Tryd.prog 74 [I x] (B r) := by
  refine Pure.enter (Fr.of 0 _) Tryd.func74 rfl (Fr.of_ok _) rfl rfl ?_
  refine go_in ?_
  unfold m_cmp_isNaN_int at h
  refine go hΓ 14 rfl ?_
  obtain rfl := Option.some.inj h
  exact fin_pure hΓ (.inr rfl) rfl rfl
theorem c_cmp_Compare_int {x : Int} {y : Int} {r : Int} (h : m_cmp_Compare_int x y = some r) : Pure Tryd.prog 48 [I x, I y] (I r) := by
  refine Pure.enter (Fr.of 0 _) Tryd.func48 rfl (Fr.of_ok _) rfl rfl ?_
  refine go_in ?_
  unfold m_cmp_Compare_int at h
  obtain ⟨y1, hy1, h2⟩ := bi_ok h
  refine go hΓ 8 rfl ?_
  refine eo_callP (callable Tryd.func74 rfl rfl) (c_cmp_isNaN_int hy1) rfl (Nat.le_of_ble_eq_true rfl) rfl rfl rfl rfl rfl ?_
  obtain ⟨y3, hy3, h4⟩ := bi_ok h2
  refine go_ops hΓ 6 rfl ?_
  refine eo_callP (callable Tryd.func74 rfl rfl) (c_cmp_isNaN_int hy3) rfl (Nat.le_of_ble_eq_true rfl) rfl rfl rfl rfl rfl ?_
  refine go_ops hΓ 9 rfl ?_
  refine j_cond rfl (fun hb => ?_) (fun hb => ?_)
  · have h5 := cT h4 hb
    refine go hΓ 6 rfl ?_
    refine j_cond rfl (fun hb => ?_) (fun hb => ?_)
    · have h6 := cT h5 hb
      refine go hΓ 8 rfl ?_
      obtain rfl := Option.some.inj h6
      exact fin_pure hΓ (.inr rfl) rfl rfl
    · have h7 := cF h5 hb
      refine go hΓ 9 rfl ?_
      obtain rfl := Option.some.inj h7
      exact fin_pure hΓ (.inr rfl) rfl rfl
  · have h8 := cF h4 hb
    refine go hΓ 8 rfl ?_
    refine j_cond rfl (fun hb => ?_) (fun hb => ?_)
    · have h9 := cT h8 hb
      refine go hΓ 7 rfl ?_
      obtain rfl := Option.some.inj h9
      exact fin_pure hΓ (.inr rfl) rfl rfl
    · have h10 := cF h8 hb
      refine go hΓ 10 rfl ?_
      refine j_cond rfl (fun hb => ?_) (fun hb => ?_)
      · have h11 := cT h10 hb
        refine go hΓ 7 rfl ?_
        obtain rfl := Option.some.inj h11
        exact fin_pure hΓ (.inr rfl) rfl rfl
      · have h12 := cF h10 hb
        refine go hΓ 10 rfl ?_
        refine j_cond rfl (fun hb => ?_) (fun hb => ?_)
        · have h13 := cT h12 hb
          refine go hΓ 7 rfl ?_
          obtain rfl := Option.some.inj h13
          exact fin_pure hΓ (.inr rfl) rfl rfl
        · have h14 := cF h12 hb
          refine go hΓ 8 rfl ?_
          obtain rfl := Option.some.inj h14
          exact fin_pure hΓ (.inr rfl) rfl rfl
theorem c_cmp_Or_int {vals : List Int} {r : Int} (h : m_cmp_Or_int vals = some r) : Pure Tryd.prog 47 [.d (Sl (eN .i64) vals)] (I r) := by
  refine Pure.enter (Fr.of 0 _) Tryd.func47 rfl (Fr.of_ok _) rfl rfl ?_
  refine go_in ?_
  unfold m_cmp_Or_int at h
  refine go hΓ 18 rfl ?_
  obtain ⟨q4, hq4, h5⟩ := bi_ok h
  refine j_bound 6 rfl fun hb7 => ?_
  refine j_cutEZ (R := fun a6 => q4 = .go a6) (fun a6 => [(3, I 0)]) (fun a6 => []) ?_ ?_
  · refine go hΓ 1 rfl ?_
    refine j_range vals hq4 (fun i1 s2 => [(3, I 0), (6, .d (Sl (eN .i64) vals)), (7, I (vals.length : Int)), (8, I (i1 : Int))]) (fun s2 => []) ⟨⟨rfl, rfl, rfl, rfl, trivial⟩, [], rfl, .inl rfl⟩ (fun i1 x3 s2 y11 hx8 hlt hy9 hout10 => ?_) (fun s2 hgo => ?_)
    · refine go hΓ 6 rfl ?_
      refine j_condT rfl (decide_eq_true (Int.ofNat_lt.2 hlt)) ?_
      refine go hΓ 6 rfl ?_
      refine eo_o rfl (op_elemZ hΓ (enc := (eN .i64)) (getZ_nat hx8) rfl rfl rfl rfl rfl (fun _ => rfl)) ?_
      refine go_ops hΓ 11 rfl ?_
      refine j_cond rfl (fun hb => ?_) (fun hb => ?_)
      · have h12 := cT hy9 hb
        refine go hΓ 9 rfl ?_
        obtain ⟨v13, hv13, h14⟩ := bi_ok h12
        obtain rfl := Option.some.inj h14
        obtain rfl := hout10 _ rfl
        obtain rfl := Option.some.inj h5
        refine go hΓ 4 rfl ?_
        obtain rfl := Option.some.inj hv13
        exact fin_pure hΓ (.inr rfl) rfl rfl
      · have h15 := cF hy9 hb
        refine go hΓ 7 rfl ?_
        obtain rfl := Option.some.inj h15
        exact ⟨_, rfl, ⟨⟨rfl, rfl, rfl, get_eq rfl (w64_succ (Nat.lt_of_lt_of_le hlt hb7)), trivial⟩, [], rfl, .inl rfl⟩⟩
    · subst hgo
      refine go hΓ 6 rfl ?_
      refine j_condF rfl (decide_eq_false (Int.lt_irrefl _)) ?_
      refine go hΓ 4 rfl ?_
      exact ⟨_, rfl, ⟨⟨rfl, trivial⟩, [], rfl, .inl rfl⟩⟩
  · intro a6 ha
    subst ha
    replace h5 := goI_l h5
    refine go hΓ 8 rfl ?_
    obtain rfl := Option.some.inj h5
    exact fin_pure hΓ (.inr rfl) rfl rfl
set_option maxHeartbeats 8000000 in
theorem c_route_CheckProbes {k : Nat} {l : List T_api_Probe} {r : Int} (h : m_route_CheckProbes k l = some r) : Pure Tryd.prog 13 [.d (Sl e_api_Probe l)] (I r) := by
  refine Pure.enter (Fr.of 0 _) Tryd.func13 rfl (Fr.of_ok _) rfl rfl ?_
  refine go_in ?_
  unfold m_route_CheckProbes at h
  refine go hΓ 13 rfl ?_
  refine j_cond rfl (fun hb => ?_) (fun hb => ?_)
  · have h1 := cT h hb
    refine go hΓ 7 rfl ?_
    obtain rfl := Option.some.inj h1
    exact fin_pure hΓ (.inr rfl) rfl rfl
  · have h2 := cF h hb
    refine go hΓ 10 rfl ?_
    obtain ⟨q6, hq6, h7⟩ := bi_ok h2
    refine j_bound 0 rfl fun hb9 => ?_
    refine j_cutEZ (R := fun a8 => q6 = .go a8) (fun a8 => []) (fun a8 => []) ?_ ?_
    · refine go hΓ 1 rfl ?_
      refine j_range l hq6 (fun i3 s4 => [(0, .d (Sl e_api_Probe l)), (9, .d (Sl e_api_Probe l)), (10, I (l.length : Int)), (11, I (i3 : Int))]) (fun s4 => []) ⟨⟨rfl, rfl, rfl, rfl, trivial⟩, [], rfl, .inl rfl⟩ (fun i3 x5 s4 y13 hx10 hlt hy11 hout12 => ?_) (fun s4 hgo => ?_)
      · refine go hΓ 6 rfl ?_
        refine j_condT rfl (decide_eq_true (Int.ofNat_lt.2 hlt)) ?_
        refine go hΓ 7 rfl ?_
        refine eo_o rfl (op_elemZ hΓ (enc := e_api_Probe) (getZ_nat hx10) rfl rfl rfl rfl rfl (fun _ => rfl)) ?_
        refine go_ops hΓ 1 rfl ?_
        refine eo_alloc hΓ rfl rfl rfl (Nat.le_of_ble_eq_true rfl) ?_
        refine go_ops hΓ 1 rfl ?_
        refine eo_store hΓ rfl rfl rfl rfl rfl rfl rfl rfl (Nat.le_of_ble_eq_true rfl) ?_
        refine eo_hp [.box 67 [I x5.At, S x5.Node, S x5.Relay, I x5.Millis]] rfl ?_
        obtain ⟨y14, hy14, h15⟩ := bi_ok hy11
        refine go_ops hΓ 8 rfl ?_
        refine eo_callP (callable Tryd.func50 rfl rfl) (c_kit_IsMoment hy14) rfl (Nat.le_of_ble_eq_true rfl) rfl rfl rfl rfl rfl ?_
        refine go_ops hΓ 4 rfl ?_
        refine j_cond rfl (fun hb => ?_) (fun hb => ?_)
        · have h16 := cT h15 hb
          refine go hΓ 10 rfl ?_
          obtain ⟨v17, hv17, h18⟩ := bi_ok h16
          obtain rfl := Option.some.inj h18
          obtain rfl := hout12 _ rfl
          obtain rfl := Option.some.inj h7
          refine go hΓ 4 rfl ?_
          obtain rfl := Option.some.inj hv17
          exact fin_pure hΓ (.inr rfl) rfl rfl
        · have h19 := cF h15 hb
          obtain ⟨y20, hy20, h21⟩ := bi_ok h19
          refine go hΓ 4 rfl ?_
          refine eo_callP (callable Tryd.func51 rfl rfl) (c_kit_IsKey hy20) rfl (Nat.le_of_ble_eq_true rfl) rfl rfl rfl rfl rfl ?_
          refine go_ops hΓ 2 rfl ?_
          obtain ⟨q22, hq22, h23⟩ := bi_ok h21
          refine o_cut 5 [(0, .d (Sl e_api_Probe l)), (3, I (i3 : Int)), (4, .ptr 0 0), (9, .d (Sl e_api_Probe l)), (10, I (l.length : Int)), (11, I (i3 : Int)), (31, B q22)] [.box 67 [I x5.At, S x5.Node, S x5.Relay, I x5.Millis]] ?_ ?_
          · refine eo_gsplit rfl rfl (fun hb => ?_) (fun hb => ?_)
            · have h24 := cT hq22 hb
              refine go_ops hΓ 6 rfl ?_
              obtain rfl := Option.some.inj h24
              exact ⟨⟨rfl, rfl, rfl, rfl, rfl, rfl, rfl, trivial⟩, [], rfl, .inl rfl⟩
            · have h25 := cF hq22 hb
              obtain ⟨y26, hy26, h27⟩ := bi_ok h25
              refine go_ops hΓ 2 rfl ?_
              refine eo_guard rfl ?_
              refine eo_callP (callable Tryd.func51 rfl rfl) (c_kit_IsKey hy26) rfl (Nat.le_of_ble_eq_true rfl) rfl rfl rfl rfl rfl ?_
              refine go_ops hΓ 3 rfl ?_
              obtain rfl := Option.some.inj h27
              exact ⟨⟨rfl, rfl, rfl, rfl, rfl, rfl, rfl, trivial⟩, [], rfl, .inl rfl⟩
          · refine go_ops hΓ 3 rfl ?_
            refine j_cond rfl (fun hb => ?_) (fun hb => ?_)
            · have h28 := cT h23 hb
              refine go hΓ 10 rfl ?_
              obtain ⟨v29, hv29, h30⟩ := bi_ok h28
              obtain rfl := Option.some.inj h30
              obtain rfl := hout12 _ rfl
              obtain rfl := Option.some.inj h7
              refine go hΓ 4 rfl ?_
              obtain rfl := Option.some.inj hv29
              exact fin_pure hΓ (.inr rfl) rfl rfl
            · have h31 := cF h23 hb
              obtain ⟨y32, hy32, h33⟩ := bi_ok h31
              refine go hΓ 4 rfl ?_
              refine eo_callP (callable Tryd.func52 rfl rfl) (c_kit_Outside hy32) rfl (Nat.le_of_ble_eq_true rfl) rfl rfl rfl rfl rfl ?_
              refine go_ops hΓ 3 rfl ?_
              refine j_cond rfl (fun hb => ?_) (fun hb => ?_)
              · have h34 := cT h33 hb
                refine go hΓ 10 rfl ?_
                obtain ⟨v35, hv35, h36⟩ := bi_ok h34
                obtain rfl := Option.some.inj h36
                obtain rfl := hout12 _ rfl
                obtain rfl := Option.some.inj h7
                refine go hΓ 4 rfl ?_
                obtain rfl := Option.some.inj hv35
                exact fin_pure hΓ (.inr rfl) rfl rfl
              · have h37 := cF h33 hb
                refine go hΓ 10 rfl ?_
                refine j_cond rfl (fun hb => ?_) (fun hb => ?_)
                · have h38 := cT h37 hb
                  refine go hΓ 8 rfl ?_
                  obtain rfl := Option.some.inj h38
                  exact ⟨_, rfl, ⟨⟨rfl, rfl, rfl, get_eq rfl (w64_succ (Nat.lt_of_lt_of_le hlt hb9)), trivial⟩, [_], rfl, .inr ⟨HB.mk rfl, FB.mk rfl, (Nat.le_of_ble_eq_true rfl)⟩⟩⟩
                · have h39 := cF h37 hb
                  obtain ⟨x40, hx40, h41⟩ := bi_ok h39
                  refine go hΓ 7 rfl ?_
                  refine eo_o rfl (op_elemZ hΓ (enc := e_api_Probe) hx40 rfl rfl rfl rfl rfl (fun _ => rfl)) ?_
                  refine go_ops hΓ 1 rfl ?_
                  refine eo_alloc hΓ rfl rfl rfl (Nat.le_of_ble_eq_true rfl) ?_
                  refine eo_store hΓ rfl rfl rfl rfl rfl rfl rfl rfl (Nat.le_of_ble_eq_true rfl) ?_
                  refine eo_hp [.box 67 [I x5.At, S x5.Node, S x5.Relay, I x5.Millis], .box 67 [I x40.At, S x40.Node, S x40.Relay, I x40.Millis]] rfl ?_
                  refine go_ops hΓ 3 rfl ?_
                  refine j_draw hmix (by kernel_rfl) ?_
                  obtain ⟨y42, hy42, h43⟩ := bi_ok h41
                  refine go hΓ 4 rfl ?_
                  refine gl_callP (callable Tryd.func48 rfl rfl) (c_cmp_Compare_int hy42) rfl rfl rfl rfl rfl rfl ?_
                  obtain ⟨y44, hy44, h45⟩ := bi_ok h43
                  refine go_draw hΓ 4 rfl ?_
                  refine gl_callP (callable Tryd.func49 rfl rfl) (c_strings_Compare hy44) rfl rfl rfl rfl rfl rfl ?_
                  obtain ⟨y46, hy46, h47⟩ := bi_ok h45
                  refine go_draw hΓ 4 rfl ?_
                  refine gl_callP (callable Tryd.func49 rfl rfl) (c_strings_Compare hy46) rfl rfl rfl rfl rfl rfl ?_
                  refine gl_litT hΓ (enc := (eN .i64)) [y42, y44, y46] rfl rfl rfl rfl rfl rfl rfl rfl rfl rfl rfl rfl ?_
                  obtain ⟨y48, hy48, h49⟩ := bi_ok h47
                  refine gl_callP (callable Tryd.func47 rfl rfl) (c_cmp_Or_int hy48) rfl rfl rfl rfl rfl rfl ?_
                  refine go_draw hΓ 3 rfl ?_
                  refine j_cond rfl (fun hb => ?_) (fun hb => ?_)
                  · have h50 := cT h49 hb
                    refine go hΓ 8 rfl ?_
                    obtain ⟨v51, hv51, h52⟩ := bi_ok h50
                    obtain rfl := Option.some.inj h52
                    obtain rfl := hout12 _ rfl
                    obtain rfl := Option.some.inj h7
                    refine go hΓ 4 rfl ?_
                    obtain rfl := Option.some.inj hv51
                    exact fin_pure hΓ (.inr rfl) rfl rfl
                  · have h53 := cF h49 hb
                    refine go hΓ 7 rfl ?_
                    obtain rfl := Option.some.inj h53
                    exact ⟨_, rfl, ⟨⟨rfl, rfl, rfl, get_eq rfl (w64_succ (Nat.lt_of_lt_of_le hlt hb9)), trivial⟩, [_, _], rfl, .inr ⟨HB.mk rfl, FB.mk rfl, (Nat.le_of_ble_eq_true rfl)⟩⟩⟩
      · subst hgo
        refine go hΓ 6 rfl ?_
        refine j_condF rfl (decide_eq_false (Int.lt_irrefl _)) ?_
        refine go hΓ 4 rfl ?_
        exact ⟨_, rfl, ⟨trivial, [], rfl, .inl rfl⟩⟩
    · intro a8 ha
      subst ha
      replace h7 := goI_l h7
      refine go hΓ 7 rfl ?_
      obtain rfl := Option.some.inj h7
      exact fin_pure hΓ (.inr rfl) rfl rfl
theorem c_route_gainFault {gain : Int} {r : Int} (h : m_route_gainFault gain = some r) : Pure Tryd.prog 60 [I gain] (I r) := by
  refine Pure.enter (Fr.of 0 _) Tryd.func60 rfl (Fr.of_ok _) rfl rfl ?_
  refine go_in ?_
  unfold m_route_gainFault at h
  obtain ⟨y1, hy1, h2⟩ := bi_ok h
  refine go hΓ 9 rfl ?_
  refine eo_callP (callable Tryd.func52 rfl rfl) (c_kit_Outside hy1) rfl (Nat.le_of_ble_eq_true rfl) rfl rfl rfl rfl rfl ?_
  refine go_ops hΓ 2 rfl ?_
  refine j_cond rfl (fun hb => ?_) (fun hb => ?_)
  · have h3 := cT h2 hb
    refine go hΓ 7 rfl ?_
    obtain rfl := Option.some.inj h3
    exact fin_pure hΓ (.inr rfl) rfl rfl
  · have h4 := cF h2 hb
    refine go hΓ 8 rfl ?_
    obtain rfl := Option.some.inj h4
    exact fin_pure hΓ (.inr rfl) rfl rfl
theorem c_route_homeFault {k : Nat} {l : List T_api_Probe} {gain : Int} {node : Str} {r : Int} (h : m_route_homeFault k l gain node = some r) : Pure Tryd.prog 40 [.d (Sl e_api_Probe l), I gain, S node] (I r) := by
  refine Pure.enter (Fr.of 0 _) Tryd.func40 rfl (Fr.of_ok _) rfl rfl ?_
  refine go_in ?_
  unfold m_route_homeFault at h
  obtain ⟨y1, hy1, h2⟩ := bi_ok h
  refine go hΓ 9 rfl ?_
  refine eo_callP (callable Tryd.func13 rfl rfl) (c_route_CheckProbes hy1) rfl (Nat.le_of_ble_eq_true rfl) rfl rfl rfl rfl rfl ?_
  refine go_ops hΓ 9 rfl ?_
  refine j_cond rfl (fun hb => ?_) (fun hb => ?_)
  · have h3 := cT h2 hb
    refine go hΓ 8 rfl ?_
    obtain rfl := Option.some.inj h3
    exact fin_pure hΓ (.inr rfl) rfl rfl
  · have h4 := cF h2 hb
    obtain ⟨y5, hy5, h6⟩ := bi_ok h4
    refine go hΓ 6 rfl ?_
    refine eo_callP (callable Tryd.func60 rfl rfl) (c_route_gainFault hy5) rfl (Nat.le_of_ble_eq_true rfl) rfl rfl rfl rfl rfl ?_
    refine go_ops hΓ 9 rfl ?_
    refine j_cond rfl (fun hb => ?_) (fun hb => ?_)
    · have h7 := cT h6 hb
      refine go hΓ 8 rfl ?_
      obtain rfl := Option.some.inj h7
      exact fin_pure hΓ (.inr rfl) rfl rfl
    · have h8 := cF h6 hb
      obtain ⟨y9, hy9, h10⟩ := bi_ok h8
      refine go hΓ 6 rfl ?_
      refine eo_callP (callable Tryd.func51 rfl rfl) (c_kit_IsKey hy9) rfl (Nat.le_of_ble_eq_true rfl) rfl rfl rfl rfl rfl ?_
      refine go_ops hΓ 3 rfl ?_
      refine j_cond rfl (fun hb => ?_) (fun hb => ?_)
      · have h11 := cT h10 hb
        refine go hΓ 7 rfl ?_
        obtain rfl := Option.some.inj h11
        exact fin_pure hΓ (.inr rfl) rfl rfl
      · have h12 := cF h10 hb
        refine go hΓ 8 rfl ?_
        obtain rfl := Option.some.inj h12
        exact fin_pure hΓ (.inr rfl) rfl rfl
theorem c_route_momentFault {v_at : Int} {r : Int} (h : m_route_momentFault v_at = some r) : Pure Tryd.prog 41 [I v_at] (I r) := by
  refine Pure.enter (Fr.of 0 _) Tryd.func41 rfl (Fr.of_ok _) rfl rfl ?_
  refine go_in ?_
  unfold m_route_momentFault at h
  obtain ⟨y1, hy1, h2⟩ := bi_ok h
  refine go hΓ 9 rfl ?_
  refine eo_callP (callable Tryd.func50 rfl rfl) (c_kit_IsMoment hy1) rfl (Nat.le_of_ble_eq_true rfl) rfl rfl rfl rfl rfl ?_
  refine go_ops hΓ 3 rfl ?_
  refine j_cond rfl (fun hb => ?_) (fun hb => ?_)
  · have h3 := cT h2 hb
    refine go hΓ 7 rfl ?_
    obtain rfl := Option.some.inj h3
    exact fin_pure hΓ (.inr rfl) rfl rfl
  · have h4 := cF h2 hb
    refine go hΓ 8 rfl ?_
    obtain rfl := Option.some.inj h4
    exact fin_pure hΓ (.inr rfl) rfl rfl
theorem c_slices_Clone_api_Probe_api_Probe {s : List T_api_Probe} {r : List T_api_Probe} (h : m_slices_Clone_api_Probe_api_Probe s = some r) : EC Tryd.prog 70 [.d (Sl e_api_Probe s)] [] fun g hp' => g = .sl 0 r.length ∧ hp' = [.row 67 4 r.length (r.flatMap e_api_Probe)] := by
  refine ec_enterC (Fr.of 0 _) Tryd.func70 rfl (Fr.of_ok _) (Nat.le_of_ble_eq_true rfl) fun _ => ?_
  refine go_in ?_
  unfold m_slices_Clone_api_Probe_api_Probe at h
  refine go hΓ 2 rfl ?_
  refine eo_nilOwn (t := 0) 67 4 rfl (Nat.le_of_ble_eq_true rfl) ?_
  refine go_ops hΓ 6 rfl ?_
  refine eo_isNil hΓ rfl rfl rfl rfl rfl fun b hbn => ?_
  rcases b with _ | _
  · refine go_ops hΓ 7 rfl ?_
    refine eo_litRowT hΓ (enc := e_api_Probe) ([] : List T_api_Probe) rfl rfl rfl rfl rfl rfl rfl rfl rfl rfl rfl rfl (Nat.le_of_ble_eq_true rfl) ?_
    obtain ⟨y1, hy1, h2⟩ := bi_ok h
    refine go_ops hΓ 1 rfl ?_
    refine eo_appendT hΓ (enc := e_api_Probe) hy1 rfl rfl rfl rfl rfl rfl rfl rfl rfl (fun _ => rfl) rfl rfl rfl rfl ?_
    refine go_ops hΓ 4 rfl ?_
    refine cv_kill 0 [.dead, .row 67 4 y1.length (y1.flatMap e_api_Probe)] rfl (Nat.le_of_ble_eq_true rfl) ?_
    refine cv_move 1 0 [.row 67 4 y1.length (y1.flatMap e_api_Probe), .dead] rfl rfl rfl rfl rfl rfl ?_
    refine cv_here ?_
    obtain rfl := Option.some.inj h2
    exact fin_objs hΓ [_] (.inr rfl) rfl rfl rfl rfl (.inr ⟨HB.mk rfl, rfl⟩)
  · obtain rfl := List.eq_nil_of_length_eq_zero (hbn rfl).1
    replace h : (some ([] : List T_api_Probe) : Option (List T_api_Probe)) = some r := h
    refine go_ops hΓ 5 rfl ?_
    refine eo_nilOwn (t := 0) 67 4 rfl (Nat.le_of_ble_eq_true rfl) ?_
    refine go_ops hΓ 4 rfl ?_
    refine cv_kill 0 [.dead, .row 67 4 ([] : List T_api_Probe).length (([] : List T_api_Probe).flatMap e_api_Probe)] rfl (Nat.le_of_ble_eq_true rfl) ?_
    refine cv_move 1 0 [.row 67 4 ([] : List T_api_Probe).length (([] : List T_api_Probe).flatMap e_api_Probe), .dead] rfl rfl rfl rfl rfl rfl ?_
    refine cv_here ?_
    obtain rfl := Option.some.inj h
    exact fin_objs hΓ [_] (.inr rfl) rfl rfl rfl rfl (.inr ⟨HB.mk rfl, rfl⟩)
theorem c_route_homes_1 {p : T_api_Probe} {x : Str} {r : Bool} (h : m_route_homes_1 p x = some r) : EC Tryd.prog 71 [.agg [I p.At, S p.Node, S p.Relay, I p.Millis], .ptr 0 0] [.box 9 [S x]] fun g hp' => g = B r ∧ hp' = [.box 9 [S x]] := by
  refine ec_enter (Fr.of 0 _) Tryd.func71 rfl (Fr.of_ok _) (Nat.le_of_ble_eq_true rfl) fun _ => ?_
  refine go_in ?_
  unfold m_route_homes_1 at h
  refine go hΓ 2 rfl ?_
  refine eo_box rfl rfl rfl rfl (Nat.le_of_ble_eq_true rfl) ?_
  refine go_ops hΓ 13 rfl ?_
  obtain rfl := Option.some.inj h
  exact fin_objs hΓ [_] (.inr rfl) rfl rfl rfl rfl (.inr ⟨HB.mk rfl, rfl⟩)
theorem c_slices_IndexFunc_api_Probe_api_Probe {s : List T_api_Probe} {f : Str} {r : Int} (h : m_slices_IndexFunc_api_Probe_api_Probe s f = some r) : EC Tryd.prog 82 [.sl 0 s.length, .fn (.func 71) [] [.ptr 1 0]] [.row 67 4 s.length (s.flatMap e_api_Probe), .box 9 [S f]] fun g hp' => g = I r ∧ hp' = [.row 67 4 s.length (s.flatMap e_api_Probe), .box 9 [S f]] := by
  refine ec_enter (Fr.of 0 _) Tryd.func82 rfl (Fr.of_ok _) (Nat.le_of_ble_eq_true rfl) fun _ => ?_
  refine go_in ?_
  unfold m_slices_IndexFunc_api_Probe_api_Probe at h
  refine go hΓ 13 rfl ?_
  obtain ⟨q4, hq4, h5⟩ := bi_ok h
  obtain ⟨hb7, h8⟩ := gd_ok hq4
  replace hb7 := of_decide_eq_true hb7
  refine j_cutEZ (R := fun a6 => q4 = .go a6) (fun a6 => []) (fun a6 => [.row 67 4 s.length (s.flatMap e_api_Probe), .box 9 [S f]]) ?_ ?_
  · refine go hΓ 1 rfl ?_
    refine j_rangeI h8 (fun i1 s2 => [(0, .sl 0 s.length), (1, .fn (.func 71) [] [.ptr 1 0]), (7, I (s.length : Int)), (8, I (i1 : Int))]) (fun s2 => [.row 67 4 s.length (s.flatMap e_api_Probe), .box 9 [S f]]) ⟨⟨rfl, rfl, rfl, rfl, trivial⟩, [], rfl, .inl rfl⟩ (fun i1 s2 y12 hlt hy10 hout11 => ?_) (fun s2 hgo hge => ?_)
    · refine go hΓ 6 rfl ?_
      refine j_condT rfl (decide_eq_true hlt) ?_
      obtain ⟨x13, hx13, h14⟩ := bi_ok hy10
      have hj15 := getZ_at hx13
      refine go hΓ 15 rfl ?_
      refine eo_o rfl (op_elemRowZ hΓ hx13 rfl rfl rfl rfl rfl rfl) ?_
      refine eo_o rfl (op_loadRowZ hΓ (enc := e_api_Probe) ((i1 : Int).toNat) 0 hj15 rfl rfl rfl rfl (fun _ => rfl) (g := .agg [I x13.At, S x13.Node, S x13.Relay, I x13.Millis]) rfl) ?_
      obtain ⟨y16, hy16, h17⟩ := bi_ok h14
      refine eo_callF [1] (B y16) [.row 67 4 s.length (s.flatMap e_api_Probe), .box 9 [S f]] (callable Tryd.func71 rfl rfl) (c_route_homes_1 hy16) rfl (Nat.le_of_ble_eq_true rfl) rfl rfl rfl rfl rfl rfl rfl rfl rfl rfl ?_
      refine go_ops hΓ 2 rfl ?_
      refine j_cond rfl (fun hb => ?_) (fun hb => ?_)
      · have h18 := cT h17 hb
        refine go hΓ 9 rfl ?_
        obtain ⟨v19, hv19, h20⟩ := bi_ok h18
        obtain rfl := Option.some.inj h20
        obtain rfl := hout11 _ rfl
        obtain rfl := Option.some.inj h5
        refine go hΓ 4 rfl ?_
        obtain rfl := Option.some.inj hv19
        exact fin_objs hΓ [] (.inr rfl) rfl rfl rfl rfl (.inl rfl)
      · have h21 := cF h17 hb
        refine go hΓ 7 rfl ?_
        obtain rfl := Option.some.inj h21
        exact ⟨_, rfl, ⟨⟨rfl, rfl, rfl, get_eq rfl (w64_succ (by omega)), trivial⟩, [], rfl, .inl rfl⟩⟩
    · subst hgo
      refine go hΓ 6 rfl ?_
      refine j_condF rfl (decide_eq_false hge) ?_
      refine go hΓ 4 rfl ?_
      exact ⟨_, rfl, ⟨trivial, [], rfl, .inl rfl⟩⟩
  · intro a6 ha
    subst ha
    replace h5 := goI_l h5
    refine go hΓ 7 rfl ?_
    obtain rfl := Option.some.inj h5
    exact fin_objs hΓ [] (.inr rfl) rfl rfl rfl rfl (.inl rfl)
theorem c_slices_DeleteFunc_api_Probe_api_Probe {k : Nat} {s : List T_api_Probe} {f : Str} {r : List T_api_Probe} (h : m_slices_DeleteFunc_api_Probe_api_Probe k s f = some r) : EC Tryd.prog 69 [.sl 0 s.length, .fn (.func 71) [] [.ptr 1 0]] [.row 67 4 s.length (s.flatMap e_api_Probe), .box 9 [S f]] fun g hp' => g = .sl 0 r.length ∧ hp' = [.row 67 4 r.length (r.flatMap e_api_Probe), .box 9 [S f]] := by
  refine ec_enter (Fr.of 0 _) Tryd.func69 rfl (Fr.of_ok _) (Nat.le_of_ble_eq_true rfl) fun _ => ?_
  refine go_in ?_
  unfold m_slices_DeleteFunc_api_Probe_api_Probe at h
  obtain ⟨y1, hy1, h2⟩ := bi_ok h
  refine go hΓ 9 rfl ?_
  refine eo_callF [0, 1] (I y1) [.row 67 4 s.length (s.flatMap e_api_Probe), .box 9 [S f]] (callable Tryd.func82 rfl rfl) (c_slices_IndexFunc_api_Probe_api_Probe hy1) rfl (Nat.le_of_ble_eq_true rfl) rfl rfl rfl rfl rfl rfl rfl rfl rfl rfl ?_
  refine go_ops hΓ 10 rfl ?_
  refine j_cond rfl (fun hb => ?_) (fun hb => ?_)
  · have h3 := cT h2 hb
    refine go hΓ 8 rfl ?_
    obtain rfl := Option.some.inj h3
    exact fin_objs hΓ [] (.inr rfl) rfl rfl rfl rfl (.inl rfl)
  · have h4 := cF h2 hb
    refine go hΓ 10 rfl ?_
    obtain ⟨q8, hq8, h9⟩ := bi_ok h4
    refine j_cutNZ [(0, .sl 0 q8.1.length), (5, I q8.2)] [.row 67 4 q8.1.length (q8.1.flatMap e_api_Probe), .box 9 [S f]] ?_ ?_
    · refine go hΓ 1 rfl ?_
      refine j_loop hq8 (fun s6 => [(0, .sl 0 s6.1.length), (1, .fn (.func 71) [] [.ptr 1 0]), (5, I s6.2.1), (6, I s6.2.2)]) (fun s6 => [.row 67 4 s6.1.length (s6.1.flatMap e_api_Probe), .box 9 [S f]]) ⟨⟨rfl, rfl, rfl, rfl, trivial⟩, [], rfl, .inl rfl⟩ (fun s6 y14 hy12 hout13 => ?_)
      refine go hΓ 9 rfl ?_
      refine j_cond rfl (fun hb => ?_) (fun hb => ?_)
      · have h15 := cT hy12 hb
        obtain ⟨x16, hx16, h17⟩ := bi_ok h15
        have hj18 := getZ_at hx16
        refine go hΓ 8 rfl ?_
        refine eo_o rfl (op_elemRowZ hΓ hx16 rfl rfl rfl rfl rfl rfl) ?_
        refine eo_o rfl (op_loadRowZ hΓ (enc := e_api_Probe) s6.2.2.toNat 0 hj18 rfl rfl rfl rfl (fun _ => rfl) (g := .agg [I x16.At, S x16.Node, S x16.Relay, I x16.Millis]) rfl) ?_
        refine eo_alloc hΓ rfl rfl rfl (Nat.le_of_ble_eq_true rfl) ?_
        refine eo_store hΓ rfl rfl rfl rfl rfl rfl rfl rfl (Nat.le_of_ble_eq_true rfl) ?_
        refine eo_hp [.row 67 4 s6.1.length (s6.1.flatMap e_api_Probe), .box 9 [S f], .box 67 [I x16.At, S x16.Node, S x16.Relay, I x16.Millis]] rfl ?_
        obtain ⟨y19, hy19, h20⟩ := bi_ok h17
        refine go_ops hΓ 6 rfl ?_
        refine eo_callF [1] (B y19) [.row 67 4 s6.1.length (s6.1.flatMap e_api_Probe), .box 9 [S f], .box 67 [I x16.At, S x16.Node, S x16.Relay, I x16.Millis]] (callable Tryd.func71 rfl rfl) (c_route_homes_1 hy19) rfl (Nat.le_of_ble_eq_true rfl) rfl rfl rfl rfl rfl rfl rfl rfl rfl rfl ?_
        refine go_ops hΓ 3 rfl ?_
        refine j_cond rfl (fun hb => ?_) (fun hb => ?_)
        · have h21 := cT h20 hb
          obtain ⟨x22, hx22, h23⟩ := bi_ok h21
          have hj24 := getZ_at hx22
          refine go hΓ 5 rfl ?_
          refine eo_o rfl (op_elemRowZ hΓ hx22 rfl rfl rfl rfl rfl rfl) ?_
          refine eo_storeRowZ hΓ (enc := e_api_Probe) (z' := x16) s6.2.1.toNat 0 hj24 rfl rfl rfl rfl (fun _ => rfl) rfl rfl rfl rfl rfl rfl (Nat.le_of_ble_eq_true rfl) ?_
          refine eo_hp [.row 67 4 (s6.1.set s6.2.1.toNat x16).length ((s6.1.set s6.2.1.toNat x16).flatMap e_api_Probe), .box 9 [S f], .box 67 [I x16.At, S x16.Node, S x16.Relay, I x16.Millis]] rfl ?_
          refine eo_relen 0 (n' := (s6.1.set s6.2.1.toNat x16).length) rfl List.length_set.symm ?_
          refine go_ops hΓ 14 rfl ?_
          obtain rfl := Option.some.inj h23
          exact ⟨_, rfl, ⟨⟨rfl, rfl, rfl, rfl, trivial⟩, [_], rfl, .inr ⟨HB.mk rfl, FB.mk rfl, (Nat.le_of_ble_eq_true rfl)⟩⟩⟩
        · have h25 := cF h20 hb
          refine go hΓ 8 rfl ?_
          obtain rfl := Option.some.inj h25
          exact ⟨_, rfl, ⟨⟨rfl, rfl, rfl, rfl, trivial⟩, [_], rfl, .inr ⟨HB.mk rfl, FB.mk rfl, (Nat.le_of_ble_eq_true rfl)⟩⟩⟩
      · have h26 := cF hy12 hb
        refine go hΓ 4 rfl ?_
        obtain rfl := Option.some.inj h26
        obtain rfl := hout13 _ rfl
        exact ⟨⟨rfl, rfl, trivial⟩, [], rfl, .inl rfl⟩
    · obtain ⟨z27, hz27, h28⟩ := bi_ok h9
      refine go hΓ 5 rfl ?_
      refine eo_o rfl (op_viewI hΓ hz27 rfl rfl rfl rfl rfl rfl) ?_
      refine eo_s0 (Nat.le_of_ble_eq_true rfl) (ops_clearT hΓ (enc := e_api_Probe) (a := q8.2) hz27 rfl rfl rfl rfl rfl rfl rfl rfl rfl rfl (fun _ => rfl)) ?_
      refine go_ops hΓ 6 rfl ?_
      refine eo_subCut hΓ hz27 rfl rfl rfl rfl rfl rfl rfl rfl ?_
      refine go_ops hΓ 4 rfl ?_
      obtain rfl := Option.some.inj h28
      exact fin_objs hΓ [] (.inr rfl) rfl rfl rfl rfl (.inl rfl)
set_option maxHeartbeats 8000000 in
theorem c_route_choose {answers : List (Str × Int)} {now : Str} {gain : Int} {r : Str} (h : m_route_choose answers now gain = some r) : EC Tryd.prog 65 [.map 0, S now, I gain] [mOb kS false (eN .i64) answers] fun g hp' => g = S r ∧ hp' = [mOb kS false (eN .i64) answers] := by
  refine ec_enter (Fr.of 0 _) Tryd.func65 rfl (Fr.of_ok _) (Nat.le_of_ble_eq_true rfl) fun _ => ?_
  refine go_in ?_
  unfold m_route_choose at h
  refine go hΓ 14 rfl ?_
  refine eo_range hΓ (kv := kS) (agg := false) (enc := (eN .i64)) answers rfl rfl rfl rfl rfl (Nat.le_of_ble_eq_true rfl) (fun mr1 bs2 cl3 hpm4 hbl5 hbn6 => ?_)
  refine eo_hp [mObS kS false (eN .i64) answers (rawM kS (eN .i64) mr1 bs2 cl3), .iter 0 cl3 []] rfl ?_
  refine go_ops hΓ 2 rfl ?_
  obtain ⟨q12, hq12, h13⟩ := bi_ok h
  refine go hΓ 1 rfl ?_
  refine j_rangeP hq12 hpm4 hbl5 hbn6 (fun s7 => [(0, .map 0), (1, S now), (2, I gain), (7, S s7), (13, .ptr 1 0)]) (fun sn9 s7 => [mObS kS false (eN .i64) answers (rawM kS (eN .i64) mr1 bs2 cl3), .iter 0 cl3 sn9]) ⟨⟨rfl, rfl, rfl, rfl, rfl, trivial⟩, [], rfl, .inl rfl⟩ (fun sn9 s7 hdone14 hstep15 => ?_)
  refine go hΓ 2 rfl ?_
  refine eo_next (kv := kS) (agg := false) (enc := (eN .i64)) answers mr1 bs2 cl3 sn9 [mOb kS false (eN .i64) answers, .dead] rfl rfl rfl rfl rfl (Nat.le_of_ble_eq_true rfl) (fun hdsn9 => ?_) (fun j10 x8 b11 hjsn9 hbsn9 hnsn9 => ?_)
  · have hqsn9 := hdone14 hdsn9
    subst hqsn9
    refine go_ops hΓ 15 rfl ?_
    refine eo_o rfl (op_lookupOk hΓ (kv := kS) (agg := false) (enc := (eN .i64)) answers now (0 : Int) rfl rfl rfl rfl key_str rfl rfl rfl rfl rfl rfl rfl) ?_
    refine go_ops hΓ 11 rfl ?_
    refine o_cut 8 [(1, S now), (7, S q12), (56, B (((mGet answers now).isSome) && (decide ((wi (((mGet answers now).getD 0) - ((mGet answers q12).getD 0)) : Int) < gain))))] [mOb kS false (eN .i64) answers, .dead] ?_ ?_
    · refine eo_gsplit rfl rfl (fun hb => ?_) (fun hb => ?_)
      · refine go_ops hΓ 3 rfl ?_
        refine eo_guard rfl ?_
        refine eo_o rfl (op_lookup hΓ (kv := kS) (agg := false) (enc := (eN .i64)) answers q12 (0 : Int) rfl rfl rfl rfl key_str rfl rfl rfl rfl rfl rfl rfl) ?_
        refine go_ops hΓ 5 rfl ?_
        exact ⟨⟨rfl, rfl, get_b rfl (and_t hb), trivial⟩, [], rfl, .inl rfl⟩
      · refine go_ops hΓ 9 rfl ?_
        exact ⟨⟨rfl, rfl, get_b rfl (and_f hb), trivial⟩, [], rfl, .inl rfl⟩
    · refine go_ops hΓ 2 rfl ?_
      refine j_cond rfl (fun hb => ?_) (fun hb => ?_)
      · have h16 := cT h13 hb
        refine go hΓ 8 rfl ?_
        obtain rfl := Option.some.inj h16
        exact fin_objs hΓ [_] (.inr rfl) rfl rfl rfl rfl (.inr ⟨HB.mk rfl, rfl⟩)
      · have h17 := cF h13 hb
        refine go hΓ 9 rfl ?_
        obtain rfl := Option.some.inj h17
        exact fin_objs hΓ [_] (.inr rfl) rfl rfl rfl rfl (.inr ⟨HB.mk rfl, rfl⟩)
  · obtain ⟨s18, h19⟩ := hstep15 j10 x8 b11 hjsn9 hbsn9 hnsn9
    have hssn9 := h19
    refine go_ops hΓ 10 rfl ?_
    refine eo_o rfl (op_entry (kv := kS) (agg := false) (enc := (eN .i64)) answers mr1 bs2 cl3 sn9 hjsn9 hbsn9 rfl rfl rfl rfl (fun _ => rfl)) ?_
    refine go_ops hΓ 11 rfl ?_
    refine o_cut 6 [(0, .map 0), (1, S now), (2, I gain), (7, S s7), (8, S x8.1), (9, I x8.2), (13, .ptr 1 0), (27, B (((s7 : Str) == []) || (decide ((x8.2 : Int) < ((mGet answers s7).getD 0)))))] [mObS kS false (eN .i64) answers (rawM kS (eN .i64) mr1 bs2 cl3), .iter 0 cl3 (sn9 ++ [b11])] ?_ ?_
    · refine eo_gsplit rfl rfl (fun hb => ?_) (fun hb => ?_)
      · refine go_ops hΓ 7 rfl ?_
        exact ⟨⟨rfl, rfl, rfl, rfl, rfl, rfl, rfl, get_b rfl (or_t hb), trivial⟩, [], rfl, .inl rfl⟩
      · refine go_ops hΓ 3 rfl ?_
        refine eo_guard rfl ?_
        refine eo_o rfl (op_lookup hΓ (kv := kS) (agg := false) (enc := (eN .i64)) answers s7 (0 : Int) rfl rfl rfl rfl key_str rfl rfl rfl rfl rfl rfl rfl) ?_
        refine go_ops hΓ 3 rfl ?_
        exact ⟨⟨rfl, rfl, rfl, rfl, rfl, rfl, rfl, get_b rfl (or_f hb), trivial⟩, [], rfl, .inl rfl⟩
    · refine go_ops hΓ 1 rfl ?_
      refine o_cut 11 [(0, .map 0), (1, S now), (2, I gain), (7, S s7), (8, S x8.1), (13, .ptr 1 0), (39, B ((((s7 : Str) == []) || (decide ((x8.2 : Int) < ((mGet answers s7).getD 0)))) || (((x8.2 : Int) == ((mGet answers s7).getD 0)) && (Op.bytesLess x8.1 s7))))] [mObS kS false (eN .i64) answers (rawM kS (eN .i64) mr1 bs2 cl3), .iter 0 cl3 (sn9 ++ [b11])] ?_ ?_
      · refine eo_gsplit rfl rfl (fun hb => ?_) (fun hb => ?_)
        · refine go_ops hΓ 12 rfl ?_
          exact ⟨⟨rfl, rfl, rfl, rfl, rfl, rfl, get_b rfl (or_t hb), trivial⟩, [], rfl, .inl rfl⟩
        · refine go_ops hΓ 3 rfl ?_
          refine eo_guard rfl ?_
          refine eo_o rfl (op_lookup hΓ (kv := kS) (agg := false) (enc := (eN .i64)) answers s7 (0 : Int) rfl rfl rfl rfl key_str rfl rfl rfl rfl rfl rfl rfl) ?_
          refine go_ops hΓ 2 rfl ?_
          refine o_cut 4 [(0, .map 0), (1, S now), (2, I gain), (7, S s7), (8, S x8.1), (13, .ptr 1 0), (28, B false), (38, B (((x8.2 : Int) == ((mGet answers s7).getD 0)) && (Op.bytesLess x8.1 s7)))] [mObS kS false (eN .i64) answers (rawM kS (eN .i64) mr1 bs2 cl3), .iter 0 cl3 (sn9 ++ [b11])] ?_ ?_
          · refine eo_gsplit rfl rfl (fun hb => ?_) (fun hb => ?_)
            · refine go_ops hΓ 5 rfl ?_
              exact ⟨⟨rfl, rfl, rfl, rfl, rfl, rfl, rfl, get_b rfl (and_t hb), trivial⟩, [], rfl, .inl rfl⟩
            · refine go_ops hΓ 5 rfl ?_
              exact ⟨⟨rfl, rfl, rfl, rfl, rfl, rfl, rfl, get_b rfl (and_f hb), trivial⟩, [], rfl, .inl rfl⟩
          · refine go_ops hΓ 2 rfl ?_
            exact ⟨⟨rfl, rfl, rfl, rfl, rfl, rfl, get_b rfl (or_f hb), trivial⟩, [], rfl, .inl rfl⟩
      · refine go_ops hΓ 2 rfl ?_
        refine j_cond rfl (fun hb => ?_) (fun hb => ?_)
        · have h20 := cT h19 hb
          refine go hΓ 5 rfl ?_
          obtain rfl := Option.some.inj h20
          exact ⟨j10, x8, b11, _, hjsn9, hbsn9, hnsn9, hssn9, ⟨⟨rfl, rfl, rfl, rfl, rfl, trivial⟩, [], rfl, .inl rfl⟩⟩
        · have h21 := cF h19 hb
          refine go hΓ 2 rfl ?_
          obtain rfl := Option.some.inj h21
          exact ⟨j10, x8, b11, _, hjsn9, hbsn9, hnsn9, hssn9, ⟨⟨rfl, rfl, rfl, rfl, rfl, trivial⟩, [], rfl, .inl rfl⟩⟩
set_option maxHeartbeats 8000000 in
theorem c_route_begins {l : List T_api_Turn} {v_at : Int} {who : Str} {r : List T_api_Turn} (h : m_route_begins l v_at who = some r) : EC Tryd.prog 66 [.sl 0 l.length, I v_at, S who] [.row 45 3 l.length (l.flatMap e_api_Turn)] fun g hp' => g = .sl 1 r.length ∧ hp' = [.dead, .row 45 3 r.length (r.flatMap e_api_Turn)] := by
  refine ec_enter (Fr.of 0 _) Tryd.func66 rfl (Fr.of_ok _) (Nat.le_of_ble_eq_true rfl) fun _ => ?_
  refine go_in ?_
  unfold m_route_begins at h
  refine go hΓ 2 rfl ?_
  refine eo_nilOwn (t := 0) 45 3 rfl (Nat.le_of_ble_eq_true rfl) ?_
  refine go_ops hΓ 16 rfl ?_
  obtain ⟨q1, hq1, h2⟩ := bi_ok h
  refine o_cut 7 [(0, .sl 0 l.length), (1, I v_at), (2, S who), (7, I (wi ((l.length : Int) - 1))), (20, B q1)] [.row 45 3 l.length (l.flatMap e_api_Turn), .row 45 3 ([] : List T_api_Turn).length (([] : List T_api_Turn).flatMap e_api_Turn)] ?_ ?_
  · refine eo_gsplit rfl rfl (fun hb => ?_) (fun hb => ?_)
    · have h3 := cT hq1 hb
      obtain ⟨x4, hx4, h5⟩ := bi_ok h3
      have hj6 := getZ_at hx4
      refine go_ops hΓ 2 rfl ?_
      refine eo_guard rfl ?_
      refine eo_o rfl (op_elemRowZ hΓ hx4 rfl rfl rfl rfl rfl rfl) ?_
      refine go_ops hΓ 1 rfl ?_
      refine eo_guard rfl ?_
      refine eo_o rfl (op_loadRowZ hΓ (enc := e_api_Turn) ((wi ((l.length : Int) - 1)).toNat) 2 hj6 rfl rfl rfl rfl (fun _ => rfl) (g := I x4.To) rfl) ?_
      refine go_ops hΓ 3 rfl ?_
      obtain rfl := Option.some.inj h5
      exact ⟨⟨rfl, rfl, rfl, rfl, rfl, trivial⟩, [], rfl, .inl rfl⟩
    · have h7 := cF hq1 hb
      refine go_ops hΓ 8 rfl ?_
      obtain rfl := Option.some.inj h7
      exact ⟨⟨rfl, rfl, rfl, rfl, rfl, trivial⟩, [], rfl, .inl rfl⟩
  · obtain ⟨q8, hq8, h9⟩ := bi_ok h2
    refine go_ops hΓ 2 rfl ?_
    refine j_cutSZ (q := q8) (fun a10 => [(0, .sl 0 a10.length), (1, I v_at), (2, S who)]) (fun a10 => [.row 45 3 a10.length (a10.flatMap e_api_Turn), .row 45 3 ([] : List T_api_Turn).length (([] : List T_api_Turn).flatMap e_api_Turn)]) ?_ ?_
    · refine j_cond rfl (fun hb => ?_) (fun hb => ?_)
      · have h11 := cT hq8 hb
        obtain ⟨x12, hx12, h13⟩ := bi_ok h11
        have hj14 := getZ_at hx12
        refine go hΓ 5 rfl ?_
        refine eo_o rfl (op_elemRowZ hΓ hx12 rfl rfl rfl rfl rfl rfl) ?_
        refine go_ops hΓ 1 rfl ?_
        refine eo_o rfl (op_loadRowZ hΓ (enc := e_api_Turn) ((wi ((l.length : Int) - 1)).toNat) 0 hj14 rfl rfl rfl rfl (fun _ => rfl) (g := S x12.Who) rfl) ?_
        refine go_ops hΓ 4 rfl ?_
        refine j_cond rfl (fun hb => ?_) (fun hb => ?_)
        · have h15 := cT h13 hb
          refine go hΓ 4 rfl ?_
          refine eo_shr 1 [] _ [.row 45 3 l.length (l.flatMap e_api_Turn), .dead] rfl rfl rfl (Nat.le_of_ble_eq_true rfl) ?_
          refine eo_move 0 1 [.dead, .row 45 3 l.length (l.flatMap e_api_Turn)] rfl rfl rfl rfl rfl rfl ?_
          refine go_ops hΓ 4 rfl ?_
          obtain ⟨v16, hv16, h17⟩ := bi_ok h15
          obtain rfl := Option.some.inj h17
          obtain rfl := Option.some.inj h9
          refine go hΓ 2 rfl ?_
          obtain rfl := Option.some.inj hv16
          exact fin_objs hΓ [] (.inr rfl) rfl rfl rfl rfl (.inl rfl)
        · have h18 := cF h13 hb
          obtain ⟨x19, hx19, h20⟩ := bi_ok h18
          have hj21 := getZ_at hx19
          refine go hΓ 7 rfl ?_
          refine eo_o rfl (op_elemRowZ hΓ hx19 rfl rfl rfl rfl rfl rfl) ?_
          refine go_ops hΓ 1 rfl ?_
          refine eo_storeRowZ hΓ (enc := e_api_Turn) (z' := (⟨x19.Who, x19.From, v_at⟩ : T_api_Turn)) ((wi ((l.length : Int) - 1)).toNat) 2 hj21 rfl rfl rfl rfl (fun _ => rfl) rfl rfl rfl rfl rfl rfl (Nat.le_of_ble_eq_true rfl) ?_
          refine eo_hp [.row 45 3 (l.set ((wi ((l.length : Int) - 1)).toNat) (⟨x19.Who, x19.From, v_at⟩ : T_api_Turn)).length ((l.set ((wi ((l.length : Int) - 1)).toNat) (⟨x19.Who, x19.From, v_at⟩ : T_api_Turn)).flatMap e_api_Turn), .row 45 3 ([] : List T_api_Turn).length (([] : List T_api_Turn).flatMap e_api_Turn)] rfl ?_
          refine eo_relen 0 (n' := (l.set ((wi ((l.length : Int) - 1)).toNat) (⟨x19.Who, x19.From, v_at⟩ : T_api_Turn)).length) rfl List.length_set.symm ?_
          obtain ⟨x22, hx22, h23⟩ := bi_ok h20
          have hj24 := getZ_at hx22
          refine go_ops hΓ 6 rfl ?_
          refine eo_o rfl (op_elemRowZ hΓ hx22 rfl rfl rfl rfl rfl rfl) ?_
          refine go_ops hΓ 1 rfl ?_
          refine eo_o rfl (op_loadRowZ hΓ (enc := e_api_Turn) ((wi ((l.length : Int) - 1)).toNat) 1 hj24 rfl rfl rfl rfl (fun _ => rfl) (g := I x22.From) rfl) ?_
          refine go_ops hΓ 4 rfl ?_
          refine j_cond rfl (fun hb => ?_) (fun hb => ?_)
          · have h25 := cT h23 hb
            obtain ⟨z26, hz26, h27⟩ := bi_ok h25
            refine go hΓ 3 rfl ?_
            refine eo_subRowZ hΓ (enc := e_api_Turn) hz26 rfl rfl rfl rfl rfl rfl rfl rfl (fun _ => rfl) rfl (Nat.le_of_ble_eq_true rfl) ?_
            refine go_ops hΓ 2 rfl ?_
            obtain rfl := Option.some.inj h27
            exact ⟨_, rfl, ⟨⟨rfl, rfl, rfl, trivial⟩, [], rfl, .inl rfl⟩⟩
          · have h28 := cF h23 hb
            refine go hΓ 1 rfl ?_
            obtain rfl := Option.some.inj h28
            exact ⟨_, rfl, ⟨⟨rfl, rfl, rfl, trivial⟩, [], rfl, .inl rfl⟩⟩
      · have h29 := cF hq8 hb
        refine go hΓ 1 rfl ?_
        obtain rfl := Option.some.inj h29
        exact ⟨_, rfl, ⟨⟨rfl, rfl, rfl, trivial⟩, [], rfl, .inl rfl⟩⟩
    · intro a10 ha
      subst ha
      replace h9 := orI_l h9
      refine go hΓ 8 rfl ?_
      refine j_cond rfl (fun hb => ?_) (fun hb => ?_)
      · have h30 := cT h9 hb
        refine go hΓ 4 rfl ?_
        refine eo_shr 1 [] _ [.row 45 3 a10.length (a10.flatMap e_api_Turn), .dead] rfl rfl rfl (Nat.le_of_ble_eq_true rfl) ?_
        refine eo_move 0 1 [.dead, .row 45 3 a10.length (a10.flatMap e_api_Turn)] rfl rfl rfl rfl rfl rfl ?_
        refine go_ops hΓ 4 rfl ?_
        obtain rfl := Option.some.inj h30
        exact fin_objs hΓ [] (.inr rfl) rfl rfl rfl rfl (.inl rfl)
      · have h31 := cF h9 hb
        refine go hΓ 7 rfl ?_
        refine eo_build hΓ (gs := [S who, I v_at, I 345686400]) rfl rfl rfl rfl rfl rfl rfl ?_
        refine eo_litT hΓ (enc := e_api_Turn) [(⟨who, v_at, 345686400⟩ : T_api_Turn)] rfl rfl rfl rfl rfl rfl rfl rfl rfl rfl rfl rfl (Nat.le_of_ble_eq_true rfl) ?_
        obtain ⟨y32, hy32, h33⟩ := bi_ok h31
        refine eo_s (Nat.le_of_ble_eq_true rfl) (nblt.1 rfl) (ops_appendT hΓ (enc := e_api_Turn) (id := 0) (h2 := show Γ 45 = some ⟨_, 3, _, _⟩ from rfl) hy32 rfl rfl rfl rfl rfl rfl rfl rfl (fun _ => rfl) rfl) ?_
        refine go_ops hΓ 1 rfl ?_
        refine eo_shr 1 [] _ [.dead, .dead, .row 45 3 y32.length (y32.flatMap e_api_Turn)] rfl rfl rfl (Nat.le_of_ble_eq_true rfl) ?_
        refine eo_move 2 1 [.dead, .row 45 3 y32.length (y32.flatMap e_api_Turn), .dead] rfl rfl rfl rfl rfl rfl ?_
        refine go_ops hΓ 3 rfl ?_
        obtain rfl := Option.some.inj h33
        exact fin_objs hΓ [_] (.inr rfl) rfl rfl rfl rfl (.inr ⟨HB.mk rfl, rfl⟩)
set_option maxHeartbeats 8000000 in
theorem c_route_homes {k : Nat} {l : List T_api_Probe} {gain : Int} {node : Str} {r : List T_api_Turn} (h : m_route_homes k l gain node = some r) : EC Tryd.prog 43 [.d (Sl e_api_Probe l), I gain, S node] [] fun g hp' => g = .sl 0 r.length ∧ hp' = [.row 45 3 r.length (r.flatMap e_api_Turn)] := by
  refine ec_enterC (Fr.of 0 _) Tryd.func43 rfl (Fr.of_ok _) (Nat.le_of_ble_eq_true rfl) fun _ => ?_
  refine go_in ?_
  unfold m_route_homes at h
  refine go hΓ 2 rfl ?_
  refine eo_box rfl rfl rfl rfl (Nat.le_of_ble_eq_true rfl) ?_
  refine go_ops hΓ 5 rfl ?_
  refine eo_nilOwn (t := 0) 45 3 rfl (Nat.le_of_ble_eq_true rfl) ?_
  obtain ⟨y1, hy1, h2⟩ := bi_ok h
  refine go_ops hΓ 10 rfl ?_
  refine eo_callF [] (.sl 2 y1.length) [.box 9 [S node], .row 45 3 ([] : List T_api_Turn).length (([] : List T_api_Turn).flatMap e_api_Turn), .row 67 4 y1.length (y1.flatMap e_api_Probe)] (callable Tryd.func70 rfl rfl) (c_slices_Clone_api_Probe_api_Probe hy1) rfl (Nat.le_of_ble_eq_true rfl) rfl rfl rfl rfl rfl rfl rfl rfl rfl rfl ?_
  obtain ⟨y3, hy3, h4⟩ := bi_ok h2
  refine go_ops hΓ 1 rfl ?_
  refine eo_callF [2, 0] (.sl 2 y3.length) [.box 9 [S node], .row 45 3 ([] : List T_api_Turn).length (([] : List T_api_Turn).flatMap e_api_Turn), .row 67 4 y3.length (y3.flatMap e_api_Probe)] (callable Tryd.func69 rfl rfl) (c_slices_DeleteFunc_api_Probe_api_Probe hy3) rfl (Nat.le_of_ble_eq_true rfl) rfl rfl rfl rfl rfl rfl rfl rfl rfl rfl ?_
  refine go_ops hΓ 9 rfl ?_
  obtain ⟨q8, hq8, h9⟩ := bi_ok h4
  refine j_cutNZ [(7, .sl 1 q8.length)] [.box 9 [S node], .row 45 3 q8.length (q8.flatMap e_api_Turn), .row 67 4 y3.length (y3.flatMap e_api_Probe)] ?_ ?_
  · refine go hΓ 1 rfl ?_
    refine j_loop hq8 (fun s6 => [(1, I gain), (7, .sl 1 s6.1.length), (8, S s6.2.1), (9, .sl 2 y3.length), (10, I s6.2.2)]) (fun s6 => [.box 9 [S node], .row 45 3 s6.1.length (s6.1.flatMap e_api_Turn), .row 67 4 y3.length (y3.flatMap e_api_Probe)]) ⟨⟨rfl, rfl, rfl, rfl, rfl, trivial⟩, [], rfl, .inl rfl⟩ (fun s6 y14 hy12 hout13 => ?_)
    refine go hΓ 9 rfl ?_
    refine j_cond rfl (fun hb => ?_) (fun hb => ?_)
    · have h15 := cT hy12 hb
      obtain ⟨x16, hx16, h17⟩ := bi_ok h15
      have hj18 := getZ_at hx16
      refine go hΓ 7 rfl ?_
      refine eo_o rfl (op_elemRowZ hΓ hx16 rfl rfl rfl rfl rfl rfl) ?_
      refine go_ops hΓ 1 rfl ?_
      refine eo_o rfl (op_loadRowZ hΓ (enc := e_api_Probe) s6.2.2.toNat 0 hj18 rfl rfl rfl rfl (fun _ => rfl) (g := I x16.At) rfl) ?_
      refine go_ops hΓ 5 rfl ?_
      refine eo_s (Nat.le_of_ble_eq_true rfl) (nblt.1 rfl) (ops_makeMap false) ?_
      refine eo_hp [.box 9 [S node], .row 45 3 s6.1.length (s6.1.flatMap e_api_Turn), .row 67 4 y3.length (y3.flatMap e_api_Probe), mOb kS false (eN .i64) ([] : List (Str × Int))] rfl ?_
      refine go_ops hΓ 4 rfl ?_
      obtain ⟨q22, hq22, h23⟩ := bi_ok h17
      refine j_cutNZ [(1, I gain), (7, .sl 1 s6.1.length), (8, S s6.2.1), (9, .sl 2 y3.length), (10, I q22.2), (11, I x16.At), (12, .map 3)] [.box 9 [S node], .row 45 3 s6.1.length (s6.1.flatMap e_api_Turn), .row 67 4 y3.length (y3.flatMap e_api_Probe), mOb kS false (eN .i64) q22.1] ?_ ?_
      · refine go hΓ 1 rfl ?_
        refine j_loop hq22 (fun s20 => [(1, I gain), (7, .sl 1 s6.1.length), (8, S s6.2.1), (9, .sl 2 y3.length), (10, I s20.2), (11, I x16.At), (12, .map 3)]) (fun s20 => [.box 9 [S node], .row 45 3 s6.1.length (s6.1.flatMap e_api_Turn), .row 67 4 y3.length (y3.flatMap e_api_Probe), mOb kS false (eN .i64) s20.1]) ⟨⟨rfl, rfl, rfl, rfl, rfl, rfl, rfl, trivial⟩, [], rfl, .inl rfl⟩ (fun s20 y28 hy26 hout27 => ?_)
        refine go hΓ 8 rfl ?_
        obtain ⟨q29, hq29, h30⟩ := bi_ok hy26
        refine o_cut 8 [(1, I gain), (7, .sl 1 s6.1.length), (8, S s6.2.1), (9, .sl 2 y3.length), (10, I s20.2), (11, I x16.At), (12, .map 3), (39, B q29)] [.box 9 [S node], .row 45 3 s6.1.length (s6.1.flatMap e_api_Turn), .row 67 4 y3.length (y3.flatMap e_api_Probe), mOb kS false (eN .i64) s20.1] ?_ ?_
        · refine eo_gsplit rfl rfl (fun hb => ?_) (fun hb => ?_)
          · have h31 := cT hq29 hb
            obtain ⟨x32, hx32, h33⟩ := bi_ok h31
            have hj34 := getZ_at hx32
            refine go_ops hΓ 2 rfl ?_
            refine eo_guard rfl ?_
            refine eo_o rfl (op_elemRowZ hΓ hx32 rfl rfl rfl rfl rfl rfl) ?_
            refine go_ops hΓ 1 rfl ?_
            refine eo_guard rfl ?_
            refine eo_o rfl (op_loadRowZ hΓ (enc := e_api_Probe) s20.2.toNat 0 hj34 rfl rfl rfl rfl (fun _ => rfl) (g := I x32.At) rfl) ?_
            refine go_ops hΓ 4 rfl ?_
            obtain rfl := Option.some.inj h33
            exact ⟨⟨rfl, rfl, rfl, rfl, rfl, rfl, rfl, rfl, trivial⟩, [], rfl, .inl rfl⟩
          · have h35 := cF hq29 hb
            refine go_ops hΓ 9 rfl ?_
            obtain rfl := Option.some.inj h35
            exact ⟨⟨rfl, rfl, rfl, rfl, rfl, rfl, rfl, rfl, trivial⟩, [], rfl, .inl rfl⟩
        · refine go_ops hΓ 2 rfl ?_
          refine j_cond rfl (fun hb => ?_) (fun hb => ?_)
          · have h36 := cT h30 hb
            obtain ⟨x37, hx37, h38⟩ := bi_ok h36
            have hj39 := getZ_at hx37
            refine go hΓ 8 rfl ?_
            refine eo_o rfl (op_elemRowZ hΓ hx37 rfl rfl rfl rfl rfl rfl) ?_
            refine go_ops hΓ 1 rfl ?_
            refine eo_o rfl (op_loadRowZ hΓ (enc := e_api_Probe) s20.2.toNat 3 hj39 rfl rfl rfl rfl (fun _ => rfl) (g := I x37.Millis) rfl) ?_
            refine go_ops hΓ 3 rfl ?_
            refine j_cond rfl (fun hb => ?_) (fun hb => ?_)
            · have h40 := cT h38 hb
              refine j_drawE [.dead, .dead, .row 67 4 y3.length (y3.flatMap e_api_Probe)] [5, 10] [11] [] hmix (by kernel_rfl) (by kernel_rfl) ⟨rfl, trivial⟩ (Nat.le_of_ble_eq_true rfl) ?_
              obtain ⟨x41, hx41, h42⟩ := bi_ok h40
              have hj43 := getZ_at hx41
              refine go_E hΓ 3 rfl ?_
              refine ge_q rfl (.inl rfl) (fun _ _ => qte_of_qt (qt_p (op_elemRowZ hΓ hx41 rfl rfl rfl rfl rfl rfl))) ?_
              refine go_E hΓ 1 rfl ?_
              refine ge_p rfl (fun hp hs => op_loadRowZ hΓ (enc := e_api_Probe) s20.2.toNat 2 hj43 rfl rfl rfl (hs 2 _ rfl rfl) (fun _ => rfl) (g := S x41.Relay) rfl) rfl ?_
              obtain ⟨x44, hx44, h45⟩ := bi_ok h42
              have hj46 := getZ_at hx44
              refine go_E hΓ 2 rfl ?_
              refine ge_q rfl (.inl rfl) (fun _ _ => qte_of_qt (qt_p (op_elemRowZ hΓ hx44 rfl rfl rfl rfl rfl rfl))) ?_
              refine go_E hΓ 1 rfl ?_
              refine ge_p rfl (fun hp hs => op_loadRowZ hΓ (enc := e_api_Probe) s20.2.toNat 3 hj46 rfl rfl rfl (hs 2 _ rfl rfl) (fun _ => rfl) (g := I x44.Millis) rfl) rfl ?_
              refine ge_h0 [.box 9 [S node], .row 45 3 s6.1.length (s6.1.flatMap e_api_Turn), .row 67 4 y3.length (y3.flatMap e_api_Probe), mOb kS false (eN .i64) (mSet s20.1 x41.Relay x44.Millis)] rfl rfl (st_st ⟨rfl, trivial⟩) (qte_u (opu_mapUpdate hΓ (kv := kS) (agg := false) (enc := (eN .i64)) (id := 3) s20.1 x41.Relay x44.Millis rfl rfl rfl key_str rfl rfl rfl rfl rfl)) ?_
              refine ge_fin ?_
              refine go hΓ 7 rfl ?_
              obtain rfl := Option.some.inj h45
              exact ⟨_, rfl, ⟨⟨rfl, rfl, rfl, rfl, rfl, rfl, rfl, trivial⟩, [], rfl, .inl rfl⟩⟩
            · have h47 := cF h38 hb
              refine go hΓ 8 rfl ?_
              obtain rfl := Option.some.inj h47
              exact ⟨_, rfl, ⟨⟨rfl, rfl, rfl, rfl, rfl, rfl, rfl, trivial⟩, [], rfl, .inl rfl⟩⟩
          · have h48 := cF h30 hb
            refine go hΓ 4 rfl ?_
            obtain rfl := Option.some.inj h48
            obtain rfl := hout27 _ rfl
            exact ⟨⟨rfl, rfl, rfl, rfl, rfl, rfl, rfl, trivial⟩, [], rfl, .inl rfl⟩
      · refine go hΓ 5 rfl ?_
        refine eo_o rfl (op_lenMap hΓ (kv := kS) (agg := false) (enc := (eN .i64)) q22.1 rfl rfl rfl rfl) ?_
        refine go_ops hΓ 3 rfl ?_
        refine j_cond rfl (fun hb => ?_) (fun hb => ?_)
        · have h49 := cT h23 hb
          refine go hΓ 3 rfl ?_
          obtain rfl := Option.some.inj h49
          exact ⟨_, rfl, ⟨⟨rfl, rfl, rfl, rfl, rfl, trivial⟩, [_], rfl, .inr ⟨HB.mk rfl, FB.mk rfl, (Nat.le_of_ble_eq_true rfl)⟩⟩⟩
        · have h50 := cF h23 hb
          obtain ⟨y51, hy51, h52⟩ := bi_ok h50
          refine go hΓ 7 rfl ?_
          refine eo_callF [3] (S y51) [.box 9 [S node], .row 45 3 s6.1.length (s6.1.flatMap e_api_Turn), .row 67 4 y3.length (y3.flatMap e_api_Probe), mOb kS false (eN .i64) q22.1] (callable Tryd.func65 rfl rfl) (c_route_choose hy51) rfl (Nat.le_of_ble_eq_true rfl) rfl rfl rfl rfl rfl rfl rfl rfl rfl rfl ?_
          obtain ⟨y53, hy53, h54⟩ := bi_ok h52
          refine go_ops hΓ 7 rfl ?_
          refine eo_callF [1] (.sl 4 y53.length) [.box 9 [S node], .dead, .row 67 4 y3.length (y3.flatMap e_api_Probe), mOb kS false (eN .i64) q22.1, .row 45 3 y53.length (y53.flatMap e_api_Turn)] (callable Tryd.func66 rfl rfl) (c_route_begins hy53) rfl (Nat.le_of_ble_eq_true rfl) rfl rfl rfl rfl rfl rfl rfl rfl rfl rfl ?_
          refine go_ops hΓ 1 rfl ?_
          refine eo_move 4 1 [.box 9 [S node], .row 45 3 y53.length (y53.flatMap e_api_Turn), .row 67 4 y3.length (y3.flatMap e_api_Probe), mOb kS false (eN .i64) q22.1, .dead] rfl rfl rfl rfl rfl rfl ?_
          refine go_ops hΓ 2 rfl ?_
          obtain rfl := Option.some.inj h54
          exact ⟨_, rfl, ⟨⟨rfl, rfl, rfl, rfl, rfl, trivial⟩, [_, _], rfl, .inr ⟨HB.mk rfl, FB.mk rfl, (Nat.le_of_ble_eq_true rfl)⟩⟩⟩
    · have h55 := cF hy12 hb
      refine go hΓ 4 rfl ?_
      obtain rfl := Option.some.inj h55
      obtain rfl := hout13 _ rfl
      exact ⟨⟨rfl, trivial⟩, [], rfl, .inl rfl⟩
  · refine go hΓ 8 rfl ?_
    refine cv_kill 0 [.dead, .row 45 3 q8.length (q8.flatMap e_api_Turn), .row 67 4 y3.length (y3.flatMap e_api_Probe)] rfl (Nat.le_of_ble_eq_true rfl) ?_
    refine cv_move 1 0 [.row 45 3 q8.length (q8.flatMap e_api_Turn), .dead, .row 67 4 y3.length (y3.flatMap e_api_Probe)] rfl rfl rfl rfl rfl rfl ?_
    refine cv_here ?_
    obtain rfl := Option.some.inj h9
    exact fin_objs hΓ [_, _] (.inr rfl) rfl rfl rfl rfl (.inr ⟨HB.mk rfl, rfl⟩)
theorem c_route_whoAt {l : List T_api_Turn} {v_at : Int} {r : Str} (h : m_route_whoAt l v_at = some r) : Pure Tryd.prog 42 [.d (Sl e_api_Turn l), I v_at] (S r) := by
  refine Pure.enter (Fr.of 0 _) Tryd.func42 rfl (Fr.of_ok _) rfl rfl ?_
  refine go_in ?_
  unfold m_route_whoAt at h
  refine go hΓ 13 rfl ?_
  obtain ⟨q4, hq4, h5⟩ := bi_ok h
  refine j_bound 7 rfl fun hb7 => ?_
  refine j_cutEZ (R := fun a6 => q4 = .go a6) (fun a6 => []) (fun a6 => []) ?_ ?_
  · refine go hΓ 1 rfl ?_
    refine j_range l hq4 (fun i1 s2 => [(1, I v_at), (7, .d (Sl e_api_Turn l)), (8, I (l.length : Int)), (9, I (i1 : Int))]) (fun s2 => []) ⟨⟨rfl, rfl, rfl, rfl, trivial⟩, [], rfl, .inl rfl⟩ (fun i1 x3 s2 y11 hx8 hlt hy9 hout10 => ?_) (fun s2 hgo => ?_)
    · refine go hΓ 6 rfl ?_
      refine j_condT rfl (decide_eq_true (Int.ofNat_lt.2 hlt)) ?_
      refine go hΓ 6 rfl ?_
      refine eo_o rfl (op_elemZ hΓ (enc := e_api_Turn) (getZ_nat hx8) rfl rfl rfl rfl rfl (fun _ => rfl)) ?_
      refine go_ops hΓ 1 rfl ?_
      refine eo_alloc hΓ rfl rfl rfl (Nat.le_of_ble_eq_true rfl) ?_
      refine eo_store hΓ rfl rfl rfl rfl rfl rfl rfl rfl (Nat.le_of_ble_eq_true rfl) ?_
      refine eo_hp [.box 45 [S x3.Who, I x3.From, I x3.To]] rfl ?_
      refine go_ops hΓ 9 rfl ?_
      refine o_cut 5 [(1, I v_at), (6, .ptr 0 0), (7, .d (Sl e_api_Turn l)), (8, I (l.length : Int)), (9, I (i1 : Int)), (22, B ((decide ((x3.From : Int) ≤ v_at)) && (decide ((v_at : Int) < x3.To))))] [.box 45 [S x3.Who, I x3.From, I x3.To]] ?_ ?_
      · refine eo_gsplit rfl rfl (fun hb => ?_) (fun hb => ?_)
        · refine go_ops hΓ 6 rfl ?_
          exact ⟨⟨rfl, rfl, rfl, rfl, rfl, get_b rfl (and_t hb), trivial⟩, [], rfl, .inl rfl⟩
        · refine go_ops hΓ 6 rfl ?_
          exact ⟨⟨rfl, rfl, rfl, rfl, rfl, get_b rfl (and_f hb), trivial⟩, [], rfl, .inl rfl⟩
      · refine go_ops hΓ 2 rfl ?_
        refine j_cond rfl (fun hb => ?_) (fun hb => ?_)
        · have h12 := cT hy9 hb
          refine go hΓ 10 rfl ?_
          obtain ⟨v13, hv13, h14⟩ := bi_ok h12
          obtain rfl := Option.some.inj h14
          obtain rfl := hout10 _ rfl
          obtain rfl := Option.some.inj h5
          refine go hΓ 4 rfl ?_
          obtain rfl := Option.some.inj hv13
          exact fin_pure hΓ (.inr rfl) rfl rfl
        · have h15 := cF hy9 hb
          refine go hΓ 7 rfl ?_
          obtain rfl := Option.some.inj h15
          exact ⟨_, rfl, ⟨⟨rfl, rfl, rfl, get_eq rfl (w64_succ (Nat.lt_of_lt_of_le hlt hb7)), trivial⟩, [_], rfl, .inr ⟨HB.mk rfl, FB.mk rfl, (Nat.le_of_ble_eq_true rfl)⟩⟩⟩
    · subst hgo
      refine go hΓ 6 rfl ?_
      refine j_condF rfl (decide_eq_false (Int.lt_irrefl _)) ?_
      refine go hΓ 4 rfl ?_
      exact ⟨_, rfl, ⟨trivial, [], rfl, .inl rfl⟩⟩
  · intro a6 ha
    subst ha
    replace h5 := goI_l h5
    refine go hΓ 7 rfl ?_
    obtain rfl := Option.some.inj h5
    exact fin_pure hΓ (.inr rfl) rfl rfl
theorem c_route_Home {k : Nat} {l : List T_api_Probe} {gain : Int} {node : Str} {v_at : Int} {r : Str × Int} (h : m_route_Home k l gain node v_at = some r) : Pure Tryd.prog 10 [.d (Sl e_api_Probe l), I gain, S node, I v_at] (.tup [S r.1, I r.2]) := by
  refine Pure.enter (Fr.of 0 _) Tryd.func10 rfl (Fr.of_ok _) rfl rfl ?_
  refine go_in ?_
  unfold m_route_Home at h
  obtain ⟨y1, hy1, h2⟩ := bi_ok h
  refine go hΓ 12 rfl ?_
  refine eo_callP (callable Tryd.func40 rfl rfl) (c_route_homeFault hy1) rfl (Nat.le_of_ble_eq_true rfl) rfl rfl rfl rfl rfl ?_
  refine go_ops hΓ 9 rfl ?_
  refine j_cond rfl (fun hb => ?_) (fun hb => ?_)
  · have h3 := cT h2 hb
    refine go hΓ 9 rfl ?_
    obtain rfl := Option.some.inj h3
    exact fin_pure hΓ (.inr rfl) rfl rfl
  · have h4 := cF h2 hb
    obtain ⟨y5, hy5, h6⟩ := bi_ok h4
    refine go hΓ 6 rfl ?_
    refine eo_callP (callable Tryd.func41 rfl rfl) (c_route_momentFault hy5) rfl (Nat.le_of_ble_eq_true rfl) rfl rfl rfl rfl rfl ?_
    refine go_ops hΓ 9 rfl ?_
    refine j_cond rfl (fun hb => ?_) (fun hb => ?_)
    · have h7 := cT h6 hb
      refine go hΓ 9 rfl ?_
      obtain rfl := Option.some.inj h7
      exact fin_pure hΓ (.inr rfl) rfl rfl
    · have h8 := cF h6 hb
      obtain ⟨y9, hy9, h10⟩ := bi_ok h8
      refine go hΓ 7 rfl ?_
      refine eo_callP (callable Tryd.func43 rfl rfl) (Pure.rows (c_route_homes hy9) rfl rfl) rfl (Nat.le_of_ble_eq_true rfl) rfl rfl rfl rfl rfl ?_
      obtain ⟨y11, hy11, h12⟩ := bi_ok h10
      refine go_ops hΓ 1 rfl ?_
      refine eo_callP (callable Tryd.func42 rfl rfl) (c_route_whoAt hy11) rfl (Nat.le_of_ble_eq_true rfl) rfl rfl rfl rfl rfl ?_
      refine go_ops hΓ 10 rfl ?_
      refine j_cond rfl (fun hb => ?_) (fun hb => ?_)
      · have h13 := cT h12 hb
        refine go hΓ 8 rfl ?_
        obtain rfl := Option.some.inj h13
        exact fin_pure hΓ (.inr rfl) rfl rfl
      · have h14 := cF h12 hb
        refine go hΓ 10 rfl ?_
        obtain rfl := Option.some.inj h14
        exact fin_pure hΓ (.inr rfl) rfl rfl
theorem c_route_Homes {k : Nat} {l : List T_api_Probe} {gain : Int} {node : Str} {r : (List T_api_Turn) × Int} (h : m_route_Homes k l gain node = some r) : Pure Tryd.prog 11 [.d (Sl e_api_Probe l), I gain, S node] (.tup [.d (Sl e_api_Turn r.1), I r.2]) := by
  refine Pure.enter (Fr.of 0 _) Tryd.func11 rfl (Fr.of_ok _) rfl rfl ?_
  refine go_in ?_
  unfold m_route_Homes at h
  obtain ⟨y1, hy1, h2⟩ := bi_ok h
  refine go hΓ 12 rfl ?_
  refine eo_callP (callable Tryd.func40 rfl rfl) (c_route_homeFault hy1) rfl (Nat.le_of_ble_eq_true rfl) rfl rfl rfl rfl rfl ?_
  refine go_ops hΓ 9 rfl ?_
  refine j_cond rfl (fun hb => ?_) (fun hb => ?_)
  · have h3 := cT h2 hb
    refine go hΓ 9 rfl ?_
    obtain rfl := Option.some.inj h3
    exact fin_pure hΓ (.inr rfl) rfl rfl
  · have h4 := cF h2 hb
    obtain ⟨y5, hy5, h6⟩ := bi_ok h4
    refine go hΓ 7 rfl ?_
    refine eo_callP (callable Tryd.func43 rfl rfl) (Pure.rows (c_route_homes hy5) rfl rfl) rfl (Nat.le_of_ble_eq_true rfl) rfl rfl rfl rfl rfl ?_
    refine go_ops hΓ 5 rfl ?_
    obtain rfl := Option.some.inj h6
    exact fin_pure hΓ (.inr rfl) rfl rfl
theorem c_laneref2_in {n : Int} {low : Int} {high : Int} {r : Bool} (h : m_laneref2_in n low high = some r) : Pure Tryd.prog 72 [I n, I low, I high] (B r) := by
  refine Pure.enter (Fr.of 0 _) Tryd.func72 rfl (Fr.of_ok _) rfl rfl ?_
  refine go_in ?_
  unfold m_laneref2_in at h
  refine go hΓ 11 rfl ?_
  refine o_cut 4 [(6, B false), (14, B ((decide ((low : Int) ≤ n)) && (decide ((n : Int) ≤ high))))] [] ?_ ?_
  · refine eo_gsplit rfl rfl (fun hb => ?_) (fun hb => ?_)
    · refine go_ops hΓ 5 rfl ?_
      exact ⟨⟨rfl, get_b rfl (and_t hb), trivial⟩, [], rfl, .inl rfl⟩
    · refine go_ops hΓ 5 rfl ?_
      exact ⟨⟨rfl, get_b rfl (and_f hb), trivial⟩, [], rfl, .inl rfl⟩
  · refine go_ops hΓ 4 rfl ?_
    obtain rfl := Option.some.inj h
    exact fin_pure hΓ (.inr rfl) rfl rfl
theorem c_laneref2_Moment {v_at : Int} {r : Bool} (h : m_laneref2_Moment v_at = some r) : Pure Tryd.prog 44 [I v_at] (B r) := by
  refine Pure.enter (Fr.of 0 _) Tryd.func44 rfl (Fr.of_ok _) rfl rfl ?_
  refine go_in ?_
  unfold m_laneref2_Moment at h
  obtain ⟨y1, hy1, h2⟩ := bi_ok h
  refine go hΓ 8 rfl ?_
  refine eo_callP (callable Tryd.func72 rfl rfl) (c_laneref2_in hy1) rfl (Nat.le_of_ble_eq_true rfl) rfl rfl rfl rfl rfl ?_
  refine go_ops hΓ 4 rfl ?_
  obtain rfl := Option.some.inj h2
  exact fin_pure hΓ (.inr rfl) rfl rfl
theorem c_laneref2_only {s : Str} {v_some : Str} {r : Bool} (h : m_laneref2_only s v_some = some r) : Pure Tryd.prog 73 [S s, S v_some] (B r) := by
  refine Pure.enter (Fr.of 0 _) Tryd.func73 rfl (Fr.of_ok _) rfl rfl ?_
  refine go_in ?_
  unfold m_laneref2_only at h
  obtain ⟨y1, hy1, h2⟩ := bi_ok h
  refine go hΓ 9 rfl ?_
  refine eo_callP (callable Tryd.func83 rfl rfl) (c_strings_Trim hy1) rfl (Nat.le_of_ble_eq_true rfl) rfl rfl rfl rfl rfl ?_
  refine go_ops hΓ 5 rfl ?_
  obtain rfl := Option.some.inj h2
  exact fin_pure hΓ (.inr rfl) rfl rfl
theorem c_laneref2_Key {s : Str} {r : Bool} (h : m_laneref2_Key s = some r) : Pure Tryd.prog 45 [S s] (B r) := by
  refine Pure.enter (Fr.of 0 _) Tryd.func45 rfl (Fr.of_ok _) rfl rfl ?_
  refine go_in ?_
  unfold m_laneref2_Key at h
  obtain ⟨y1, hy1, h2⟩ := bi_ok h
  refine go hΓ 9 rfl ?_
  refine eo_callP (callable Tryd.func72 rfl rfl) (c_laneref2_in hy1) rfl (Nat.le_of_ble_eq_true rfl) rfl rfl rfl rfl rfl ?_
  refine go_ops hΓ 1 rfl ?_
  obtain ⟨q3, hq3, h4⟩ := bi_ok h2
  refine o_cut 4 [(0, S s), (2, B false), (10, B q3)] [] ?_ ?_
  · refine eo_gsplit rfl rfl (fun hb => ?_) (fun hb => ?_)
    · have h5 := cT hq3 hb
      obtain ⟨z6, hz6, h7⟩ := bi_ok h5
      refine go_ops hΓ 1 rfl ?_
      refine eo_guard rfl ?_
      refine eo_o rfl (op_subZ hΓ hz6 rfl rfl rfl rfl rfl) ?_
      obtain ⟨y8, hy8, h9⟩ := bi_ok h7
      refine eo_guard rfl ?_
      refine eo_callP (callable Tryd.func73 rfl rfl) (c_laneref2_only hy8) rfl (Nat.le_of_ble_eq_true rfl) rfl rfl rfl rfl rfl ?_
      refine go_ops hΓ 2 rfl ?_
      obtain rfl := Option.some.inj h9
      exact ⟨⟨rfl, rfl, rfl, trivial⟩, [], rfl, .inl rfl⟩
    · have h10 := cF hq3 hb
      refine go_ops hΓ 5 rfl ?_
      obtain rfl := Option.some.inj h10
      exact ⟨⟨rfl, rfl, rfl, trivial⟩, [], rfl, .inl rfl⟩
  · refine go_ops hΓ 1 rfl ?_
    obtain ⟨q11, hq11, h12⟩ := bi_ok h4
    refine o_cut 3 [(2, B false), (14, B q11)] [] ?_ ?_
    · refine eo_gsplit rfl rfl (fun hb => ?_) (fun hb => ?_)
      · have h13 := cT hq11 hb
        obtain ⟨y14, hy14, h15⟩ := bi_ok h13
        refine go_ops hΓ 1 rfl ?_
        refine eo_guard rfl ?_
        refine eo_callP (callable Tryd.func73 rfl rfl) (c_laneref2_only hy14) rfl (Nat.le_of_ble_eq_true rfl) rfl rfl rfl rfl rfl ?_
        refine go_ops hΓ 2 rfl ?_
        obtain rfl := Option.some.inj h15
        exact ⟨⟨rfl, rfl, trivial⟩, [], rfl, .inl rfl⟩
      · have h16 := cF hq11 hb
        refine go_ops hΓ 4 rfl ?_
        obtain rfl := Option.some.inj h16
        exact ⟨⟨rfl, rfl, trivial⟩, [], rfl, .inl rfl⟩
    · refine go_ops hΓ 4 rfl ?_
      obtain rfl := Option.some.inj h12
      exact fin_pure hΓ (.inr rfl) rfl rfl
theorem c_laneref1_in {n : Int} {low : Int} {high : Int} {r : Bool} (h : m_laneref1_in n low high = some r) : Pure Tryd.prog 46 [I n, I low, I high] (B r) := by
  refine Pure.enter (Fr.of 0 _) Tryd.func46 rfl (Fr.of_ok _) rfl rfl ?_
  refine go_in ?_
  unfold m_laneref1_in at h
  refine go hΓ 11 rfl ?_
  refine o_cut 4 [(6, B false), (14, B ((decide ((low : Int) ≤ n)) && (decide ((n : Int) ≤ high))))] [] ?_ ?_
  · refine eo_gsplit rfl rfl (fun hb => ?_) (fun hb => ?_)
    · refine go_ops hΓ 5 rfl ?_
      exact ⟨⟨rfl, get_b rfl (and_t hb), trivial⟩, [], rfl, .inl rfl⟩
    · refine go_ops hΓ 5 rfl ?_
      exact ⟨⟨rfl, get_b rfl (and_f hb), trivial⟩, [], rfl, .inl rfl⟩
  · refine go_ops hΓ 4 rfl ?_
    obtain rfl := Option.some.inj h
    exact fin_pure hΓ (.inr rfl) rfl rfl
set_option maxHeartbeats 8000000 in
theorem c_laneref1_ProbesFault {l : List T_api_Probe} {r : Int} (h : m_laneref1_ProbesFault l = some r) : Pure Tryd.prog 12 [.d (Sl e_api_Probe l)] (I r) := by
  refine Pure.enter (Fr.of 0 _) Tryd.func12 rfl (Fr.of_ok _) rfl rfl ?_
  refine go_in ?_
  unfold m_laneref1_ProbesFault at h
  refine go hΓ 13 rfl ?_
  refine j_cond rfl (fun hb => ?_) (fun hb => ?_)
  · have h1 := cT h hb
    refine go hΓ 7 rfl ?_
    obtain rfl := Option.some.inj h1
    exact fin_pure hΓ (.inr rfl) rfl rfl
  · have h2 := cF h hb
    refine go hΓ 10 rfl ?_
    obtain ⟨q6, hq6, h7⟩ := bi_ok h2
    refine j_bound 0 rfl fun hb9 => ?_
    refine j_cutEZ (R := fun a8 => q6 = .go a8) (fun a8 => []) (fun a8 => []) ?_ ?_
    · refine go hΓ 1 rfl ?_
      refine j_range l hq6 (fun i3 s4 => [(0, .d (Sl e_api_Probe l)), (8, .d (Sl e_api_Probe l)), (9, I (l.length : Int)), (10, I (i3 : Int))]) (fun s4 => []) ⟨⟨rfl, rfl, rfl, rfl, trivial⟩, [], rfl, .inl rfl⟩ (fun i3 x5 s4 y13 hx10 hlt hy11 hout12 => ?_) (fun s4 hgo => ?_)
      · refine go hΓ 6 rfl ?_
        refine j_condT rfl (decide_eq_true (Int.ofNat_lt.2 hlt)) ?_
        refine go hΓ 7 rfl ?_
        refine eo_o rfl (op_elemZ hΓ (enc := e_api_Probe) (getZ_nat hx10) rfl rfl rfl rfl rfl (fun _ => rfl)) ?_
        refine go_ops hΓ 1 rfl ?_
        refine eo_alloc hΓ rfl rfl rfl (Nat.le_of_ble_eq_true rfl) ?_
        refine go_ops hΓ 1 rfl ?_
        refine eo_store hΓ rfl rfl rfl rfl rfl rfl rfl rfl (Nat.le_of_ble_eq_true rfl) ?_
        refine eo_hp [.box 67 [I x5.At, S x5.Node, S x5.Relay, I x5.Millis]] rfl ?_
        obtain ⟨y14, hy14, h15⟩ := bi_ok hy11
        refine go_ops hΓ 7 rfl ?_
        refine eo_callP (callable Tryd.func44 rfl rfl) (c_laneref2_Moment hy14) rfl (Nat.le_of_ble_eq_true rfl) rfl rfl rfl rfl rfl ?_
        refine go_ops hΓ 4 rfl ?_
        refine j_cond rfl (fun hb => ?_) (fun hb => ?_)
        · have h16 := cT h15 hb
          refine go hΓ 9 rfl ?_
          obtain ⟨v17, hv17, h18⟩ := bi_ok h16
          obtain rfl := Option.some.inj h18
          obtain rfl := hout12 _ rfl
          obtain rfl := Option.some.inj h7
          refine go hΓ 4 rfl ?_
          obtain rfl := Option.some.inj hv17
          exact fin_pure hΓ (.inr rfl) rfl rfl
        · have h19 := cF h15 hb
          obtain ⟨y20, hy20, h21⟩ := bi_ok h19
          refine go hΓ 4 rfl ?_
          refine eo_callP (callable Tryd.func45 rfl rfl) (c_laneref2_Key hy20) rfl (Nat.le_of_ble_eq_true rfl) rfl rfl rfl rfl rfl ?_
          refine go_ops hΓ 2 rfl ?_
          obtain ⟨q22, hq22, h23⟩ := bi_ok h21
          refine o_cut 5 [(0, .d (Sl e_api_Probe l)), (3, I (i3 : Int)), (4, .ptr 0 0), (8, .d (Sl e_api_Probe l)), (9, I (l.length : Int)), (10, I (i3 : Int)), (30, B q22)] [.box 67 [I x5.At, S x5.Node, S x5.Relay, I x5.Millis]] ?_ ?_
          · refine eo_gsplit rfl rfl (fun hb => ?_) (fun hb => ?_)
            · have h24 := cT hq22 hb
              refine go_ops hΓ 6 rfl ?_
              obtain rfl := Option.some.inj h24
              exact ⟨⟨rfl, rfl, rfl, rfl, rfl, rfl, rfl, trivial⟩, [], rfl, .inl rfl⟩
            · have h25 := cF hq22 hb
              obtain ⟨y26, hy26, h27⟩ := bi_ok h25
              refine go_ops hΓ 2 rfl ?_
              refine eo_guard rfl ?_
              refine eo_callP (callable Tryd.func45 rfl rfl) (c_laneref2_Key hy26) rfl (Nat.le_of_ble_eq_true rfl) rfl rfl rfl rfl rfl ?_
              refine go_ops hΓ 3 rfl ?_
              obtain rfl := Option.some.inj h27
              exact ⟨⟨rfl, rfl, rfl, rfl, rfl, rfl, rfl, trivial⟩, [], rfl, .inl rfl⟩
          · refine go_ops hΓ 3 rfl ?_
            refine j_cond rfl (fun hb => ?_) (fun hb => ?_)
            · have h28 := cT h23 hb
              refine go hΓ 9 rfl ?_
              obtain ⟨v29, hv29, h30⟩ := bi_ok h28
              obtain rfl := Option.some.inj h30
              obtain rfl := hout12 _ rfl
              obtain rfl := Option.some.inj h7
              refine go hΓ 4 rfl ?_
              obtain rfl := Option.some.inj hv29
              exact fin_pure hΓ (.inr rfl) rfl rfl
            · have h31 := cF h23 hb
              obtain ⟨y32, hy32, h33⟩ := bi_ok h31
              refine go hΓ 4 rfl ?_
              refine eo_callP (callable Tryd.func46 rfl rfl) (c_laneref1_in hy32) rfl (Nat.le_of_ble_eq_true rfl) rfl rfl rfl rfl rfl ?_
              refine go_ops hΓ 4 rfl ?_
              refine j_cond rfl (fun hb => ?_) (fun hb => ?_)
              · have h34 := cT h33 hb
                refine go hΓ 9 rfl ?_
                obtain ⟨v35, hv35, h36⟩ := bi_ok h34
                obtain rfl := Option.some.inj h36
                obtain rfl := hout12 _ rfl
                obtain rfl := Option.some.inj h7
                refine go hΓ 4 rfl ?_
                obtain rfl := Option.some.inj hv35
                exact fin_pure hΓ (.inr rfl) rfl rfl
              · have h37 := cF h33 hb
                obtain ⟨q38, hq38, h39⟩ := bi_ok h37
                refine go hΓ 1 rfl ?_
                refine j_cutNZ [(0, .d (Sl e_api_Probe l)), (8, .d (Sl e_api_Probe l)), (9, I (l.length : Int)), (10, I (i3 : Int)), (36, B q38)] [.box 67 [I x5.At, S x5.Node, S x5.Relay, I x5.Millis]] ?_ ?_
                · refine j_drawE [.box 67 [I x5.At, S x5.Node, S x5.Relay, I x5.Millis]] [10, 19, 28] [] [] hmix (by kernel_rfl) (by kernel_rfl) ⟨rfl, trivial⟩ (Nat.le_of_ble_eq_true rfl) ?_
                  refine go_E hΓ 3 rfl ?_
                  refine ge_gsplit rfl rfl (fun hb => ?_) (fun hb => ?_)
                  · have h40 := cT hq38 hb
                    obtain ⟨x41, hx41, h42⟩ := bi_ok h40
                    refine go_E hΓ 3 rfl ?_
                    refine ge_q rfl (.inr ⟨_, _, rfl, rfl⟩) (fun _ _ => qte_of_qt (qt_p (op_elemZ hΓ (enc := e_api_Probe) hx41 rfl rfl rfl rfl rfl (fun _ => rfl)))) ?_
                    obtain ⟨y43, hy43, h44⟩ := bi_ok h42
                    refine go_E hΓ 4 rfl ?_
                    refine ge_callPg rfl (callable Tryd.func48 rfl rfl) (c_cmp_Compare_int hy43) rfl rfl rfl rfl rfl rfl ?_
                    obtain ⟨x45, hx45, h46⟩ := bi_ok h44
                    refine go_E hΓ 3 rfl ?_
                    refine ge_q rfl (.inr ⟨_, _, rfl, rfl⟩) (fun _ _ => qte_of_qt (qt_p (op_elemZ hΓ (enc := e_api_Probe) hx45 rfl rfl rfl rfl rfl (fun _ => rfl)))) ?_
                    obtain ⟨y47, hy47, h48⟩ := bi_ok h46
                    refine go_E hΓ 4 rfl ?_
                    refine ge_callPg rfl (callable Tryd.func49 rfl rfl) (c_strings_Compare hy47) rfl rfl rfl rfl rfl rfl ?_
                    obtain ⟨x49, hx49, h50⟩ := bi_ok h48
                    refine go_E hΓ 3 rfl ?_
                    refine ge_q rfl (.inr ⟨_, _, rfl, rfl⟩) (fun _ _ => qte_of_qt (qt_p (op_elemZ hΓ (enc := e_api_Probe) hx49 rfl rfl rfl rfl rfl (fun _ => rfl)))) ?_
                    obtain ⟨y51, hy51, h52⟩ := bi_ok h50
                    refine go_E hΓ 4 rfl ?_
                    refine ge_callPg rfl (callable Tryd.func49 rfl rfl) (c_strings_Compare hy51) rfl rfl rfl rfl rfl rfl ?_
                    refine ge_litTg hΓ (enc := (eN .i64)) [y43, y47, y51] rfl rfl rfl rfl rfl rfl rfl rfl rfl rfl rfl rfl rfl ?_
                    obtain ⟨y53, hy53, h54⟩ := bi_ok h52
                    refine ge_callPg rfl (callable Tryd.func47 rfl rfl) (c_cmp_Or_int hy53) rfl rfl rfl rfl rfl rfl ?_
                    refine go_E hΓ 3 rfl ?_
                    refine ge_fin ?_
                    obtain rfl := Option.some.inj h54
                    exact ⟨⟨rfl, rfl, rfl, rfl, rfl, trivial⟩, [], rfl, .inl rfl⟩
                  · have h55 := cF hq38 hb
                    refine go_E hΓ 32 rfl ?_
                    refine ge_fin ?_
                    obtain rfl := Option.some.inj h55
                    exact ⟨⟨rfl, rfl, rfl, rfl, rfl, trivial⟩, [], rfl, .inl rfl⟩
                · refine go hΓ 1 rfl ?_
                  refine j_cond rfl (fun hb => ?_) (fun hb => ?_)
                  · have h56 := cT h39 hb
                    refine go hΓ 9 rfl ?_
                    obtain ⟨v57, hv57, h58⟩ := bi_ok h56
                    obtain rfl := Option.some.inj h58
                    obtain rfl := hout12 _ rfl
                    obtain rfl := Option.some.inj h7
                    refine go hΓ 4 rfl ?_
                    obtain rfl := Option.some.inj hv57
                    exact fin_pure hΓ (.inr rfl) rfl rfl
                  · have h59 := cF h39 hb
                    refine go hΓ 8 rfl ?_
                    obtain rfl := Option.some.inj h59
                    exact ⟨_, rfl, ⟨⟨rfl, rfl, rfl, get_eq rfl (w64_succ (Nat.lt_of_lt_of_le hlt hb9)), trivial⟩, [_], rfl, .inr ⟨HB.mk rfl, FB.mk rfl, (Nat.le_of_ble_eq_true rfl)⟩⟩⟩
      · subst hgo
        refine go hΓ 6 rfl ?_
        refine j_condF rfl (decide_eq_false (Int.lt_irrefl _)) ?_
        refine go hΓ 4 rfl ?_
        exact ⟨_, rfl, ⟨trivial, [], rfl, .inl rfl⟩⟩
    · intro a8 ha
      subst ha
      replace h7 := goI_l h7
      refine go hΓ 7 rfl ?_
      obtain rfl := Option.some.inj h7
      exact fin_pure hΓ (.inr rfl) rfl rfl
theorem c_laneref1_GainFault {gain : Int} {r : Int} (h : m_laneref1_GainFault gain = some r) : Pure Tryd.prog 15 [I gain] (I r) := by
  refine Pure.enter (Fr.of 0 _) Tryd.func15 rfl (Fr.of_ok _) rfl rfl ?_
  refine go_in ?_
  unfold m_laneref1_GainFault at h
  obtain ⟨y1, hy1, h2⟩ := bi_ok h
  refine go hΓ 9 rfl ?_
  refine eo_callP (callable Tryd.func46 rfl rfl) (c_laneref1_in hy1) rfl (Nat.le_of_ble_eq_true rfl) rfl rfl rfl rfl rfl ?_
  refine go_ops hΓ 3 rfl ?_
  refine j_cond rfl (fun hb => ?_) (fun hb => ?_)
  · have h3 := cT h2 hb
    refine go hΓ 7 rfl ?_
    obtain rfl := Option.some.inj h3
    exact fin_pure hΓ (.inr rfl) rfl rfl
  · have h4 := cF h2 hb
    refine go hΓ 8 rfl ?_
    obtain rfl := Option.some.inj h4
    exact fin_pure hΓ (.inr rfl) rfl rfl
theorem c_laneref1_keyFault {s : Str} {r : Int} (h : m_laneref1_keyFault s = some r) : Pure Tryd.prog 53 [S s] (I r) := by
  refine Pure.enter (Fr.of 0 _) Tryd.func53 rfl (Fr.of_ok _) rfl rfl ?_
  refine go_in ?_
  unfold m_laneref1_keyFault at h
  obtain ⟨y1, hy1, h2⟩ := bi_ok h
  refine go hΓ 9 rfl ?_
  refine eo_callP (callable Tryd.func45 rfl rfl) (c_laneref2_Key hy1) rfl (Nat.le_of_ble_eq_true rfl) rfl rfl rfl rfl rfl ?_
  refine go_ops hΓ 3 rfl ?_
  refine j_cond rfl (fun hb => ?_) (fun hb => ?_)
  · have h3 := cT h2 hb
    refine go hΓ 7 rfl ?_
    obtain rfl := Option.some.inj h3
    exact fin_pure hΓ (.inr rfl) rfl rfl
  · have h4 := cF h2 hb
    refine go hΓ 8 rfl ?_
    obtain rfl := Option.some.inj h4
    exact fin_pure hΓ (.inr rfl) rfl rfl
theorem c_laneref1_KeyFault {s : Str} {r : Int} (h : m_laneref1_KeyFault s = some r) : Pure Tryd.prog 16 [S s] (I r) := by
  refine Pure.enter (Fr.of 0 _) Tryd.func16 rfl (Fr.of_ok _) rfl rfl ?_
  refine go_in ?_
  unfold m_laneref1_KeyFault at h
  obtain ⟨y1, hy1, h2⟩ := bi_ok h
  refine go hΓ 8 rfl ?_
  refine eo_callP (callable Tryd.func53 rfl rfl) (c_laneref1_keyFault hy1) rfl (Nat.le_of_ble_eq_true rfl) rfl rfl rfl rfl rfl ?_
  refine go_ops hΓ 4 rfl ?_
  obtain rfl := Option.some.inj h2
  exact fin_pure hΓ (.inr rfl) rfl rfl
theorem c_cmp_Or_api_Errno {vals : List Int} {r : Int} (h : m_cmp_Or_api_Errno vals = some r) : Pure Tryd.prog 14 [.d (Sl (eN .i64) vals)] (I r) := by
  refine Pure.enter (Fr.of 0 _) Tryd.func14 rfl (Fr.of_ok _) rfl rfl ?_
  refine go_in ?_
  unfold m_cmp_Or_api_Errno at h
  refine go hΓ 18 rfl ?_
  obtain ⟨q4, hq4, h5⟩ := bi_ok h
  refine j_bound 6 rfl fun hb7 => ?_
  refine j_cutEZ (R := fun a6 => q4 = .go a6) (fun a6 => [(3, I 0)]) (fun a6 => []) ?_ ?_
  · refine go hΓ 1 rfl ?_
    refine j_range vals hq4 (fun i1 s2 => [(3, I 0), (6, .d (Sl (eN .i64) vals)), (7, I (vals.length : Int)), (8, I (i1 : Int))]) (fun s2 => []) ⟨⟨rfl, rfl, rfl, rfl, trivial⟩, [], rfl, .inl rfl⟩ (fun i1 x3 s2 y11 hx8 hlt hy9 hout10 => ?_) (fun s2 hgo => ?_)
    · refine go hΓ 6 rfl ?_
      refine j_condT rfl (decide_eq_true (Int.ofNat_lt.2 hlt)) ?_
      refine go hΓ 6 rfl ?_
      refine eo_o rfl (op_elemZ hΓ (enc := (eN .i64)) (getZ_nat hx8) rfl rfl rfl rfl rfl (fun _ => rfl)) ?_
      refine go_ops hΓ 11 rfl ?_
      refine j_cond rfl (fun hb => ?_) (fun hb => ?_)
      · have h12 := cT hy9 hb
        refine go hΓ 9 rfl ?_
        obtain ⟨v13, hv13, h14⟩ := bi_ok h12
        obtain rfl := Option.some.inj h14
        obtain rfl := hout10 _ rfl
        obtain rfl := Option.some.inj h5
        refine go hΓ 4 rfl ?_
        obtain rfl := Option.some.inj hv13
        exact fin_pure hΓ (.inr rfl) rfl rfl
      · have h15 := cF hy9 hb
        refine go hΓ 7 rfl ?_
        obtain rfl := Option.some.inj h15
        exact ⟨_, rfl, ⟨⟨rfl, rfl, rfl, get_eq rfl (w64_succ (Nat.lt_of_lt_of_le hlt hb7)), trivial⟩, [], rfl, .inl rfl⟩⟩
    · subst hgo
      refine go hΓ 6 rfl ?_
      refine j_condF rfl (decide_eq_false (Int.lt_irrefl _)) ?_
      refine go hΓ 4 rfl ?_
      exact ⟨_, rfl, ⟨⟨rfl, trivial⟩, [], rfl, .inl rfl⟩⟩
  · intro a6 ha
    subst ha
    replace h5 := goI_l h5
    refine go hΓ 8 rfl ?_
    obtain rfl := Option.some.inj h5
    exact fin_pure hΓ (.inr rfl) rfl rfl
theorem c_laneref1_MomentFault {v_at : Int} {r : Int} (h : m_laneref1_MomentFault v_at = some r) : Pure Tryd.prog 17 [I v_at] (I r) := by
  refine Pure.enter (Fr.of 0 _) Tryd.func17 rfl (Fr.of_ok _) rfl rfl ?_
  refine go_in ?_
  unfold m_laneref1_MomentFault at h
  obtain ⟨y1, hy1, h2⟩ := bi_ok h
  refine go hΓ 9 rfl ?_
  refine eo_callP (callable Tryd.func44 rfl rfl) (c_laneref2_Moment hy1) rfl (Nat.le_of_ble_eq_true rfl) rfl rfl rfl rfl rfl ?_
  refine go_ops hΓ 3 rfl ?_
  refine j_cond rfl (fun hb => ?_) (fun hb => ?_)
  · have h3 := cT h2 hb
    refine go hΓ 7 rfl ?_
    obtain rfl := Option.some.inj h3
    exact fin_pure hΓ (.inr rfl) rfl rfl
  · have h4 := cF h2 hb
    refine go hΓ 8 rfl ?_
    obtain rfl := Option.some.inj h4
    exact fin_pure hΓ (.inr rfl) rfl rfl
set_option maxHeartbeats 8000000 in
theorem c_laneref1_addTurn {l : List T_api_Turn} {who : Str} {v_from : Int} {to : Int} {r : List T_api_Turn} (h : m_laneref1_addTurn l who v_from to = some r) : EC Tryd.prog 55 [.sl 0 l.length, S who, I v_from, I to] [.row 45 3 l.length (l.flatMap e_api_Turn)] fun g hp' => g = .sl 1 r.length ∧ hp' = [.dead, .row 45 3 r.length (r.flatMap e_api_Turn)] := by
  refine ec_enter (Fr.of 0 _) Tryd.func55 rfl (Fr.of_ok _) (Nat.le_of_ble_eq_true rfl) fun _ => ?_
  refine go_in ?_
  unfold m_laneref1_addTurn at h
  refine go hΓ 2 rfl ?_
  refine eo_nilOwn (t := 0) 45 3 rfl (Nat.le_of_ble_eq_true rfl) ?_
  refine go_ops hΓ 8 rfl ?_
  refine o_cut 4 [(0, .sl 0 l.length), (1, S who), (2, I v_from), (3, I to), (16, B (((who : Str) == []) || (decide ((v_from : Int) ≥ to))))] [.row 45 3 l.length (l.flatMap e_api_Turn), .row 45 3 ([] : List T_api_Turn).length (([] : List T_api_Turn).flatMap e_api_Turn)] ?_ ?_
  · refine eo_gsplit rfl rfl (fun hb => ?_) (fun hb => ?_)
    · refine go_ops hΓ 5 rfl ?_
      exact ⟨⟨rfl, rfl, rfl, rfl, get_b rfl (or_t hb), trivial⟩, [], rfl, .inl rfl⟩
    · refine go_ops hΓ 5 rfl ?_
      exact ⟨⟨rfl, rfl, rfl, rfl, get_b rfl (or_f hb), trivial⟩, [], rfl, .inl rfl⟩
  · refine go_ops hΓ 2 rfl ?_
    refine j_cond rfl (fun hb => ?_) (fun hb => ?_)
    · have h1 := cT h hb
      refine go hΓ 4 rfl ?_
      refine eo_shr 1 [] _ [.row 45 3 l.length (l.flatMap e_api_Turn), .dead] rfl rfl rfl (Nat.le_of_ble_eq_true rfl) ?_
      refine eo_move 0 1 [.dead, .row 45 3 l.length (l.flatMap e_api_Turn)] rfl rfl rfl rfl rfl rfl ?_
      refine go_ops hΓ 4 rfl ?_
      obtain rfl := Option.some.inj h1
      exact fin_objs hΓ [] (.inr rfl) rfl rfl rfl rfl (.inl rfl)
    · have h2 := cF h hb
      refine go hΓ 15 rfl ?_
      obtain ⟨q3, hq3, h4⟩ := bi_ok h2
      refine o_cut 9 [(0, .sl 0 l.length), (1, S who), (2, I v_from), (3, I to), (9, I (l.length : Int)), (31, B q3)] [.row 45 3 l.length (l.flatMap e_api_Turn), .row 45 3 ([] : List T_api_Turn).length (([] : List T_api_Turn).flatMap e_api_Turn)] ?_ ?_
      · refine eo_gsplit rfl rfl (fun hb => ?_) (fun hb => ?_)
        · have h5 := cT hq3 hb
          obtain ⟨x6, hx6, h7⟩ := bi_ok h5
          have hj8 := getZ_at hx6
          refine go_ops hΓ 3 rfl ?_
          refine eo_guard rfl ?_
          refine eo_o rfl (op_elemRowZ hΓ hx6 rfl rfl rfl rfl rfl rfl) ?_
          refine go_ops hΓ 1 rfl ?_
          refine eo_guard rfl ?_
          refine eo_o rfl (op_loadRowZ hΓ (enc := e_api_Turn) ((wi ((l.length : Int) - 1)).toNat) 0 hj8 rfl rfl rfl rfl (fun _ => rfl) (g := S x6.Who) rfl) ?_
          refine go_ops hΓ 4 rfl ?_
          obtain rfl := Option.some.inj h7
          exact ⟨⟨rfl, rfl, rfl, rfl, rfl, rfl, trivial⟩, [], rfl, .inl rfl⟩
        · have h9 := cF hq3 hb
          refine go_ops hΓ 10 rfl ?_
          obtain rfl := Option.some.inj h9
          exact ⟨⟨rfl, rfl, rfl, rfl, rfl, rfl, trivial⟩, [], rfl, .inl rfl⟩
      · refine go_ops hΓ 1 rfl ?_
        obtain ⟨q10, hq10, h11⟩ := bi_ok h4
        refine o_cut 9 [(0, .sl 0 l.length), (1, S who), (2, I v_from), (3, I to), (9, I (l.length : Int)), (41, B q10)] [.row 45 3 l.length (l.flatMap e_api_Turn), .row 45 3 ([] : List T_api_Turn).length (([] : List T_api_Turn).flatMap e_api_Turn)] ?_ ?_
        · refine eo_gsplit rfl rfl (fun hb => ?_) (fun hb => ?_)
          · have h12 := cT hq10 hb
            obtain ⟨x13, hx13, h14⟩ := bi_ok h12
            have hj15 := getZ_at hx13
            refine go_ops hΓ 3 rfl ?_
            refine eo_guard rfl ?_
            refine eo_o rfl (op_elemRowZ hΓ hx13 rfl rfl rfl rfl rfl rfl) ?_
            refine go_ops hΓ 1 rfl ?_
            refine eo_guard rfl ?_
            refine eo_o rfl (op_loadRowZ hΓ (enc := e_api_Turn) ((wi ((l.length : Int) - 1)).toNat) 2 hj15 rfl rfl rfl rfl (fun _ => rfl) (g := I x13.To) rfl) ?_
            refine go_ops hΓ 4 rfl ?_
            obtain rfl := Option.some.inj h14
            exact ⟨⟨rfl, rfl, rfl, rfl, rfl, rfl, trivial⟩, [], rfl, .inl rfl⟩
          · have h16 := cF hq10 hb
            refine go_ops hΓ 10 rfl ?_
            obtain rfl := Option.some.inj h16
            exact ⟨⟨rfl, rfl, rfl, rfl, rfl, rfl, trivial⟩, [], rfl, .inl rfl⟩
        · refine go_ops hΓ 2 rfl ?_
          refine j_cond rfl (fun hb => ?_) (fun hb => ?_)
          · have h17 := cT h11 hb
            obtain ⟨x18, hx18, h19⟩ := bi_ok h17
            have hj20 := getZ_at hx18
            refine go hΓ 6 rfl ?_
            refine eo_o rfl (op_elemRowZ hΓ hx18 rfl rfl rfl rfl rfl rfl) ?_
            refine go_ops hΓ 1 rfl ?_
            refine eo_storeRowZ hΓ (enc := e_api_Turn) (z' := (⟨x18.Who, x18.From, to⟩ : T_api_Turn)) ((wi ((l.length : Int) - 1)).toNat) 2 hj20 rfl rfl rfl rfl (fun _ => rfl) rfl rfl rfl rfl rfl rfl (Nat.le_of_ble_eq_true rfl) ?_
            refine eo_hp [.row 45 3 (l.set ((wi ((l.length : Int) - 1)).toNat) (⟨x18.Who, x18.From, to⟩ : T_api_Turn)).length ((l.set ((wi ((l.length : Int) - 1)).toNat) (⟨x18.Who, x18.From, to⟩ : T_api_Turn)).flatMap e_api_Turn), .row 45 3 ([] : List T_api_Turn).length (([] : List T_api_Turn).flatMap e_api_Turn)] rfl ?_
            refine eo_relen 0 (n' := (l.set ((wi ((l.length : Int) - 1)).toNat) (⟨x18.Who, x18.From, to⟩ : T_api_Turn)).length) rfl List.length_set.symm ?_
            refine go_ops hΓ 6 rfl ?_
            refine eo_shr 1 [] _ [.row 45 3 (l.set ((wi ((l.length : Int) - 1)).toNat) (⟨x18.Who, x18.From, to⟩ : T_api_Turn)).length ((l.set ((wi ((l.length : Int) - 1)).toNat) (⟨x18.Who, x18.From, to⟩ : T_api_Turn)).flatMap e_api_Turn), .dead] rfl rfl rfl (Nat.le_of_ble_eq_true rfl) ?_
            refine eo_move 0 1 [.dead, .row 45 3 (l.set ((wi ((l.length : Int) - 1)).toNat) (⟨x18.Who, x18.From, to⟩ : T_api_Turn)).length ((l.set ((wi ((l.length : Int) - 1)).toNat) (⟨x18.Who, x18.From, to⟩ : T_api_Turn)).flatMap e_api_Turn)] rfl rfl rfl rfl rfl rfl ?_
            refine go_ops hΓ 4 rfl ?_
            obtain rfl := Option.some.inj h19
            exact fin_objs hΓ [] (.inr rfl) rfl rfl rfl rfl (.inl rfl)
          · have h21 := cF h11 hb
            refine go hΓ 8 rfl ?_
            refine eo_build hΓ (gs := [S who, I v_from, I to]) rfl rfl rfl rfl rfl rfl rfl ?_
            refine eo_litT hΓ (enc := e_api_Turn) [(⟨who, v_from, to⟩ : T_api_Turn)] rfl rfl rfl rfl rfl rfl rfl rfl rfl rfl rfl rfl (Nat.le_of_ble_eq_true rfl) ?_
            obtain ⟨y22, hy22, h23⟩ := bi_ok h21
            refine eo_s (Nat.le_of_ble_eq_true rfl) (nblt.1 rfl) (ops_appendT hΓ (enc := e_api_Turn) (id := 0) (h2 := show Γ 45 = some ⟨_, 3, _, _⟩ from rfl) hy22 rfl rfl rfl rfl rfl rfl rfl rfl (fun _ => rfl) rfl) ?_
            refine go_ops hΓ 1 rfl ?_
            refine eo_shr 1 [] _ [.dead, .dead, .row 45 3 y22.length (y22.flatMap e_api_Turn)] rfl rfl rfl (Nat.le_of_ble_eq_true rfl) ?_
            refine eo_move 2 1 [.dead, .row 45 3 y22.length (y22.flatMap e_api_Turn), .dead] rfl rfl rfl rfl rfl rfl ?_
            refine go_ops hΓ 3 rfl ?_
            obtain rfl := Option.some.inj h23
            exact fin_objs hΓ [_] (.inr rfl) rfl rfl rfl rfl (.inr ⟨HB.mk rfl, rfl⟩)
set_option maxHeartbeats 8000000 in
theorem c_laneref1_HomeTurns {l : List T_api_Probe} {gain : Int} {node : Str} {al : BagT} {r : (List T_api_Turn) × BagT} (h : m_laneref1_HomeTurns l gain node al = some r) : EC Tryd.prog 21 [.d (Sl e_api_Probe l), I gain, S node] [.bag al.1 (arX al.2) []] fun g hp' => g = .sl 1 r.1.length ∧ hp' = [.bag r.2.1 (arX r.2.2) [], .row 45 3 r.1.length (r.1.flatMap e_api_Turn)] := by
  refine ec_enterC (Fr.of 0 _) Tryd.func21 rfl (Fr.of_ok _) (Nat.le_of_ble_eq_true rfl) fun _ => ?_
  refine go_in ?_
  unfold m_laneref1_HomeTurns at h
  refine go hΓ 7 rfl ?_
  refine eo_s (Nat.le_of_ble_eq_true rfl) (nblt.1 rfl) (ops_makeMap false) ?_
  refine eo_hp [.bag al.1 (arX al.2) [], mOb (kI .i64) false (eH none) ([] : List (Int × Nat))] rfl ?_
  refine go_ops hΓ 5 rfl ?_
  refine eo_nilOwn (t := 0) 3 1 rfl (Nat.le_of_ble_eq_true rfl) ?_
  refine go_ops hΓ 10 rfl ?_
  obtain ⟨q4, hq4, h5⟩ := bi_ok h
  refine j_bound 21 rfl fun hb7 => ?_
  refine j_cutNZ [(1, I gain), (7, .map 1), (8, .sl 2 q4.2.2.length)] [.bag q4.1.1 (arX q4.1.2) [], mOb (kI .i64) false (eH none) q4.2.1, .row 3 1 q4.2.2.length (q4.2.2.flatMap (eN .i64))] ?_ ?_
  · refine go hΓ 1 rfl ?_
    refine j_rangeF l hq4 (fun i1 s2 => [(1, I gain), (2, S node), (7, .map 1), (8, .sl 2 s2.2.2.length), (21, .d (Sl e_api_Probe l)), (22, I (l.length : Int)), (23, I (i1 : Int))]) (fun s2 => [.bag s2.1.1 (arX s2.1.2) [], mOb (kI .i64) false (eH none) s2.2.1, .row 3 1 s2.2.2.length (s2.2.2.flatMap (eN .i64))]) ⟨⟨rfl, rfl, rfl, rfl, rfl, rfl, rfl, trivial⟩, [], rfl, .inl rfl⟩ (fun i1 x3 s2 y11 hx8 hlt hy9 => ?_) (?_)
    · refine go hΓ 6 rfl ?_
      refine j_condT rfl (decide_eq_true (Int.ofNat_lt.2 hlt)) ?_
      refine go hΓ 6 rfl ?_
      refine eo_o rfl (op_elemZ hΓ (enc := e_api_Probe) (getZ_nat hx8) rfl rfl rfl rfl rfl (fun _ => rfl)) ?_
      refine go_ops hΓ 1 rfl ?_
      refine eo_alloc hΓ rfl rfl rfl (Nat.le_of_ble_eq_true rfl) ?_
      refine eo_store hΓ rfl rfl rfl rfl rfl rfl rfl rfl (Nat.le_of_ble_eq_true rfl) ?_
      refine eo_hp [.bag s2.1.1 (arX s2.1.2) [], mOb (kI .i64) false (eH none) s2.2.1, .row 3 1 s2.2.2.length (s2.2.2.flatMap (eN .i64)), .box 67 [I x3.At, S x3.Node, S x3.Relay, I x3.Millis]] rfl ?_
      refine go_ops hΓ 11 rfl ?_
      refine j_cond rfl (fun hb => ?_) (fun hb => ?_)
      · have h12 := cT hy9 hb
        refine go hΓ 8 rfl ?_
        obtain rfl := Option.some.inj h12
        exact ⟨⟨rfl, rfl, rfl, rfl, rfl, rfl, get_eq rfl (w64_succ (Nat.lt_of_lt_of_le hlt hb7)), trivial⟩, [_], rfl, .inr ⟨HB.mk rfl, FB.mk rfl, (Nat.le_of_ble_eq_true rfl)⟩⟩
      · have h13 := cF hy9 hb
        refine go hΓ 8 rfl ?_
        refine eo_o rfl (op_lookupG hΓ (kv := (kI .i64)) (agg := false) (enc := (eH none)) s2.2.1 x3.At (0 : Nat) rfl rfl rfl rfl (key_int .i64) rfl rfl rfl (zdv_hd rfl) rfl) ?_
        refine eo_o rfl ((op_isNilM hΓ rfl rfl rfl rfl).1) ?_
        obtain ⟨q14, hq14, h15⟩ := bi_ok h13
        refine go_ops hΓ 2 rfl ?_
        refine j_cutNZ [(1, I gain), (2, S node), (7, .map 1), (8, .sl 2 q14.2.2.length), (10, .ptr 3 0), (21, .d (Sl e_api_Probe l)), (22, I (l.length : Int)), (23, I (i1 : Int))] [.bag q14.1.1 (arX q14.1.2) [], mOb (kI .i64) false (eH none) q14.2.1, .row 3 1 q14.2.2.length (q14.2.2.flatMap (eN .i64)), .box 67 [I x3.At, S x3.Node, S x3.Relay, I x3.Millis]] ?_ ?_
        · refine j_cond rfl (fun hb => ?_) (fun hb => ?_)
          · have h16 := cT hq14 hb
            refine go hΓ 5 rfl ?_
            refine eo_s (Nat.le_of_ble_eq_true rfl) (nblt.1 rfl) (ops_makeMap false) ?_
            refine eo_hp [.bag s2.1.1 (arX s2.1.2) [], mOb (kI .i64) false (eH none) s2.2.1, .row 3 1 s2.2.2.length (s2.2.2.flatMap (eN .i64)), .box 67 [I x3.At, S x3.Node, S x3.Relay, I x3.Millis], mOb kS false (eN .i64) ([] : List (Str × Int))] rfl ?_
            refine eo_hput (bg := 0) (id := 4) (a := (fM kS false (eN .i64)) s2.1.1.length ([] : List (Str × Int))) [(39, none)] [.bag (s2.1.1 ++ [false]) (arX ((s2.1.1.length, ([] : List (Str × Int))) :: s2.1.2)) [], mOb (kI .i64) false (eH none) s2.2.1, .row 3 1 s2.2.2.length (s2.2.2.flatMap (eN .i64)), .box 67 [I x3.At, S x3.Node, S x3.Relay, I x3.Millis], .dead] ⟨rfl, trivial⟩ rfl rfl ⟨rfl, rfl⟩ rfl rfl arN_here rfl (Nat.le_of_ble_eq_true rfl) ?_
            refine eo_u (Nat.le_of_ble_eq_true rfl) (opu_mapUpdate hΓ (kv := (kI .i64)) (agg := false) (enc := (eH none)) (id := 1) s2.2.1 x3.At (s2.1.1.length + 1) rfl rfl rfl (key_int .i64) rfl rfl rfl rfl rfl) ?_
            refine eo_hp [.bag (s2.1.1 ++ [false]) (arX ((s2.1.1.length, ([] : List (Str × Int))) :: s2.1.2)) [], mOb (kI .i64) false (eH none) (mSet s2.2.1 x3.At (s2.1.1.length + 1)), .row 3 1 s2.2.2.length (s2.2.2.flatMap (eN .i64)), .box 67 [I x3.At, S x3.Node, S x3.Relay, I x3.Millis], .dead] rfl ?_
            refine go_ops hΓ 6 rfl ?_
            refine eo_litT hΓ (enc := (eN .i64)) [x3.At] rfl rfl rfl rfl rfl rfl rfl rfl rfl rfl rfl rfl (Nat.le_of_ble_eq_true rfl) ?_
            obtain ⟨y17, hy17, h18⟩ := bi_ok h16
            refine eo_appendT hΓ (enc := (eN .i64)) hy17 rfl rfl rfl rfl rfl rfl rfl rfl rfl (fun _ => rfl) rfl rfl rfl rfl ?_
            refine go_ops hΓ 2 rfl ?_
            obtain rfl := Option.some.inj h18
            exact ⟨⟨rfl, rfl, rfl, rfl, rfl, rfl, rfl, rfl, trivial⟩, [_], rfl, .inr ⟨HB.mk rfl, FB.mk rfl, (Nat.le_of_ble_eq_true rfl)⟩⟩
          · have h19 := cF hq14 hb
            refine go hΓ 1 rfl ?_
            obtain rfl := Option.some.inj h19
            exact ⟨⟨rfl, rfl, rfl, rfl, rfl, rfl, rfl, rfl, trivial⟩, [], rfl, .inl rfl⟩
        · refine go hΓ 8 rfl ?_
          refine j_cond rfl (fun hb => ?_) (fun hb => ?_)
          · have h20 := cT h15 hb
            refine go hΓ 4 rfl ?_
            refine eo_o rfl (op_lookupG hΓ (kv := (kI .i64)) (agg := false) (enc := (eH none)) q14.2.1 x3.At (0 : Nat) rfl rfl rfl rfl (key_int .i64) rfl rfl rfl (zdv_hd rfl) rfl) ?_
            obtain ⟨m21, hm21, h22⟩ := bi_ok h20
            refine go_ops hΓ 4 rfl ?_
            refine eo_u (Nat.le_of_ble_eq_true rfl) (opu_mapUpdateH hΓ (bg := 0) (kv := kS) (agg := false) (enc := (eN .i64)) m21 x3.Relay x3.Millis rfl rfl (arU_here (fun _ _ => rfl) hm21 (mSet m21 x3.Relay x3.Millis)) rfl rfl rfl key_str rfl rfl (fun e => by cases e) rfl rfl) ?_
            refine eo_hp [.bag q14.1.1 (arX (hSet q14.1.2 ((mGet q14.2.1 x3.At).getD 0) (mSet m21 x3.Relay x3.Millis))) [], mOb (kI .i64) false (eH none) q14.2.1, .row 3 1 q14.2.2.length (q14.2.2.flatMap (eN .i64)), .box 67 [I x3.At, S x3.Node, S x3.Relay, I x3.Millis]] rfl ?_
            refine go_ops hΓ 7 rfl ?_
            obtain rfl := Option.some.inj h22
            exact ⟨⟨rfl, rfl, rfl, rfl, rfl, rfl, get_eq rfl (w64_succ (Nat.lt_of_lt_of_le hlt hb7)), trivial⟩, [_], rfl, .inr ⟨HB.mk rfl, FB.mk rfl, (Nat.le_of_ble_eq_true rfl)⟩⟩
          · have h23 := cF h15 hb
            refine go hΓ 7 rfl ?_
            obtain rfl := Option.some.inj h23
            exact ⟨⟨rfl, rfl, rfl, rfl, rfl, rfl, get_eq rfl (w64_succ (Nat.lt_of_lt_of_le hlt hb7)), trivial⟩, [_], rfl, .inr ⟨HB.mk rfl, FB.mk rfl, (Nat.le_of_ble_eq_true rfl)⟩⟩
    · refine go hΓ 6 rfl ?_
      refine j_condF rfl (decide_eq_false (Int.lt_irrefl _)) ?_
      refine go hΓ 4 rfl ?_
      exact ⟨⟨rfl, rfl, rfl, trivial⟩, [], rfl, .inl rfl⟩
  · refine go hΓ 4 rfl ?_
    refine eo_litT hΓ (enc := (eN .i64)) [345686400] rfl rfl rfl rfl rfl rfl rfl rfl rfl rfl rfl rfl (Nat.le_of_ble_eq_true rfl) ?_
    obtain ⟨y24, hy24, h25⟩ := bi_ok h5
    refine eo_appendT hΓ (enc := (eN .i64)) hy24 rfl rfl rfl rfl rfl rfl rfl rfl rfl (fun _ => rfl) rfl rfl rfl rfl ?_
    refine go_ops hΓ 5 rfl ?_
    refine eo_nilOwn (t := 0) 45 3 rfl (Nat.le_of_ble_eq_true rfl) ?_
    refine go_ops hΓ 14 rfl ?_
    refine eo_shr 2 [8, 59, 60, 61] _ [.bag q4.1.1 (arX q4.1.2) [], mOb (kI .i64) false (eH none) q4.2.1, .dead, .row 45 3 ([] : List T_api_Turn).length (([] : List T_api_Turn).flatMap e_api_Turn)] rfl rfl rfl (Nat.le_of_ble_eq_true rfl) ?_
    obtain ⟨z26, hz26, h27⟩ := bi_ok h25
    refine eo_o rfl (op_subRoZ hΓ (enc := (eN .i64)) hz26 rfl rfl rfl rfl rfl rfl (fun _ => rfl)) ?_
    refine go_ops hΓ 4 rfl ?_
    obtain ⟨q31, hq31, h32⟩ := bi_ok h27
    refine j_bound 64 rfl fun hb34 => ?_
    refine j_cutNZ [(11, .sl 3 q31.1.length)] [.bag q4.1.1 (arX q4.1.2) [], mOb (kI .i64) false (eH none) q4.2.1, .dead, .row 45 3 q31.1.length (q31.1.flatMap e_api_Turn)] ?_ ?_
    · refine go hΓ 1 rfl ?_
      refine j_rangeF z26 hq31 (fun i28 s29 => [(1, I gain), (7, .map 1), (8, .d (Sl (eN .i64) y24)), (11, .sl 3 s29.1.length), (12, S s29.2), (64, .d (Sl (eN .i64) z26)), (65, I (z26.length : Int)), (66, I (i28 : Int))]) (fun s29 => [.bag q4.1.1 (arX q4.1.2) [], mOb (kI .i64) false (eH none) q4.2.1, .dead, .row 45 3 s29.1.length (s29.1.flatMap e_api_Turn)]) ⟨⟨rfl, rfl, rfl, rfl, rfl, rfl, rfl, rfl, trivial⟩, [], rfl, .inl rfl⟩ (fun i28 x30 s29 y38 hx35 hlt hy36 => ?_) (?_)
      · refine go hΓ 6 rfl ?_
        refine j_condT rfl (decide_eq_true (Int.ofNat_lt.2 hlt)) ?_
        refine go hΓ 7 rfl ?_
        refine eo_o rfl (op_elemZ hΓ (enc := (eN .i64)) (getZ_nat hx35) rfl rfl rfl rfl rfl (fun _ => rfl)) ?_
        refine go_ops hΓ 15 rfl ?_
        refine eo_o rfl (op_lookupG hΓ (kv := (kI .i64)) (agg := false) (enc := (eH none)) q4.2.1 x30 (0 : Nat) rfl rfl rfl rfl (key_int .i64) rfl rfl rfl (zdv_hd rfl) rfl) ?_
        obtain ⟨m39, hm39, h40⟩ := bi_ok hy36
        refine eo_hlendD (bg := 0) 73 [.bag q4.1.1 (arX (hDel q4.1.2 ((mGet q4.2.1 x30).getD 0))) [(((mGet q4.2.1 x30).getD 0) - 1, 4)], mOb (kI .i64) false (eH none) q4.2.1, .dead, .row 45 3 s29.1.length (s29.1.flatMap e_api_Turn), mOb kS false (eN .i64) m39] rfl rfl (arD_here (fun _ _ => rfl) hm39) rfl (Nat.le_of_ble_eq_true rfl) ?_
        refine eo_range hΓ (kv := kS) (agg := false) (enc := (eN .i64)) m39 rfl rfl rfl rfl rfl (Nat.le_of_ble_eq_true rfl) (fun mr41 bs42 cl43 hpm44 hbl45 hbn46 => ?_)
        refine eo_hp [.bag q4.1.1 (arX (hDel q4.1.2 ((mGet q4.2.1 x30).getD 0))) [(((mGet q4.2.1 x30).getD 0) - 1, 4)], mOb (kI .i64) false (eH none) q4.2.1, .dead, .row 45 3 s29.1.length (s29.1.flatMap e_api_Turn), mObS kS false (eN .i64) m39 (rawM kS (eN .i64) mr41 bs42 cl43), .iter 4 cl43 []] rfl ?_
        refine go_ops hΓ 2 rfl ?_
        obtain ⟨q52, hq52, h53⟩ := bi_ok h40
        refine go hΓ 1 rfl ?_
        refine j_rangeP hq52 hpm44 hbl45 hbn46 (fun s47 => [(1, I gain), (7, .map 1), (8, .d (Sl (eN .i64) y24)), (11, .sl 3 s29.1.length), (12, S s29.2), (13, I (i28 : Int)), (14, I x30), (15, S s47), (64, .d (Sl (eN .i64) z26)), (65, I (z26.length : Int)), (66, I (i28 : Int)), (74, .ptr 5 0)]) (fun sn49 s47 => [.bag q4.1.1 (arX (hDel q4.1.2 ((mGet q4.2.1 x30).getD 0))) [(((mGet q4.2.1 x30).getD 0) - 1, 4)], mOb (kI .i64) false (eH none) q4.2.1, .dead, .row 45 3 s29.1.length (s29.1.flatMap e_api_Turn), mObS kS false (eN .i64) m39 (rawM kS (eN .i64) mr41 bs42 cl43), .iter 4 cl43 sn49]) ⟨⟨rfl, rfl, rfl, rfl, rfl, rfl, rfl, rfl, rfl, rfl, rfl, rfl, trivial⟩, [], rfl, .inl rfl⟩ (fun sn49 s47 hdone54 hstep55 => ?_)
        refine go hΓ 2 rfl ?_
        refine eo_next (kv := kS) (agg := false) (enc := (eN .i64)) m39 mr41 bs42 cl43 sn49 [.bag q4.1.1 (arX (hDel q4.1.2 ((mGet q4.2.1 x30).getD 0))) [(((mGet q4.2.1 x30).getD 0) - 1, 4)], mOb (kI .i64) false (eH none) q4.2.1, .dead, .row 45 3 s29.1.length (s29.1.flatMap e_api_Turn), mOb kS false (eN .i64) m39, .dead] rfl rfl rfl rfl rfl (Nat.le_of_ble_eq_true rfl) (fun hdsn49 => ?_) (fun j50 x48 b51 hjsn49 hbsn49 hnsn49 => ?_)
        · have hqsn49 := hdone54 hdsn49
          subst hqsn49
          refine go_ops hΓ 3 rfl ?_
          refine j_hbackD (bg := 0) (id := 4) (a := fM kS false (eN .i64) (((mGet q4.2.1 x30).getD 0) - 1) m39) [.bag q4.1.1 (arX q4.1.2) [], mOb (kI .i64) false (eH none) q4.2.1, .dead, .row 45 3 s29.1.length (s29.1.flatMap e_api_Turn), .dead, .dead] (arD_here (fun _ _ => rfl) hm39) rfl rfl rfl ⟨rfl, rfl⟩ rfl (Nat.le_of_ble_eq_true rfl) ?_
          refine go hΓ 11 rfl ?_
          refine eo_o rfl (op_lookupG hΓ (kv := (kI .i64)) (agg := false) (enc := (eH none)) q4.2.1 x30 (0 : Nat) rfl rfl rfl rfl (key_int .i64) rfl rfl rfl (zdv_hd rfl) rfl) ?_
          obtain ⟨m56, hm56, h57⟩ := bi_ok h53
          refine go_ops hΓ 1 rfl ?_
          refine eo_o rfl (op_lookupOkH hΓ (bg := 0) (kv := kS) (agg := false) (enc := (eN .i64)) m56 s29.2 (0 : Int) rfl rfl (arU_here (fun _ _ => rfl) hm56 m56) rfl rfl rfl rfl key_str rfl (zdv_plain rfl rfl rfl) rfl rfl) ?_
          refine go_ops hΓ 13 rfl ?_
          obtain ⟨q58, hq58, h59⟩ := bi_ok h57
          refine o_cut 14 [(1, I gain), (7, .map 1), (8, .d (Sl (eN .i64) y24)), (11, .sl 3 s29.1.length), (12, S s29.2), (13, I (i28 : Int)), (14, I x30), (15, S q52), (64, .d (Sl (eN .i64) z26)), (65, I (z26.length : Int)), (66, I (i28 : Int)), (130, B q58)] [.bag q4.1.1 (arX q4.1.2) [], mOb (kI .i64) false (eH none) q4.2.1, .dead, .row 45 3 s29.1.length (s29.1.flatMap e_api_Turn), .dead, .dead] ?_ ?_
          · refine eo_gsplit rfl rfl (fun hb => ?_) (fun hb => ?_)
            · have h60 := cT hq58 hb
              refine go_ops hΓ 2 rfl ?_
              obtain ⟨q61, hq61, h62⟩ := bi_ok h60
              refine o_cut 10 [(1, I gain), (7, .map 1), (8, .d (Sl (eN .i64) y24)), (11, .sl 3 s29.1.length), (12, S s29.2), (13, I (i28 : Int)), (14, I x30), (15, S q52), (64, .d (Sl (eN .i64) z26)), (65, I (z26.length : Int)), (66, I (i28 : Int)), (116, B true), (128, B q61)] [.bag q4.1.1 (arX q4.1.2) [], mOb (kI .i64) false (eH none) q4.2.1, .dead, .row 45 3 s29.1.length (s29.1.flatMap e_api_Turn), .dead, .dead] ?_ ?_
              · refine eo_gsplit rfl rfl (fun hb => ?_) (fun hb => ?_)
                · have h63 := cT hq61 hb
                  refine go_ops hΓ 3 rfl ?_
                  refine eo_guard rfl ?_
                  refine eo_o rfl (op_lookupG hΓ (kv := (kI .i64)) (agg := false) (enc := (eH none)) q4.2.1 x30 (0 : Nat) rfl rfl rfl rfl (key_int .i64) rfl rfl rfl (zdv_hd rfl) rfl) ?_
                  obtain ⟨m64, hm64, h65⟩ := bi_ok h63
                  refine go_ops hΓ 1 rfl ?_
                  refine eo_guard rfl ?_
                  refine eo_o rfl (op_lookupH hΓ (bg := 0) (kv := kS) (agg := false) (enc := (eN .i64)) m64 q52 (0 : Int) rfl rfl (arU_here (fun _ _ => rfl) hm64 m64) rfl rfl rfl rfl key_str rfl (zdv_plain rfl rfl rfl) rfl rfl) ?_
                  refine go_ops hΓ 5 rfl ?_
                  obtain rfl := Option.some.inj h65
                  exact ⟨⟨rfl, rfl, rfl, rfl, rfl, rfl, rfl, rfl, rfl, rfl, rfl, rfl, rfl, trivial⟩, [], rfl, .inl rfl⟩
                · have h66 := cF hq61 hb
                  refine go_ops hΓ 11 rfl ?_
                  obtain rfl := Option.some.inj h66
                  exact ⟨⟨rfl, rfl, rfl, rfl, rfl, rfl, rfl, rfl, rfl, rfl, rfl, rfl, rfl, trivial⟩, [], rfl, .inl rfl⟩
              · refine go_ops hΓ 3 rfl ?_
                obtain rfl := Option.some.inj h62
                exact ⟨⟨rfl, rfl, rfl, rfl, rfl, rfl, rfl, rfl, rfl, rfl, rfl, rfl, trivial⟩, [], rfl, .inl rfl⟩
            · have h67 := cF hq58 hb
              refine go_ops hΓ 15 rfl ?_
              obtain rfl := Option.some.inj h67
              exact ⟨⟨rfl, rfl, rfl, rfl, rfl, rfl, rfl, rfl, rfl, rfl, rfl, rfl, trivial⟩, [], rfl, .inl rfl⟩
          · obtain ⟨q68, hq68, h69⟩ := bi_ok h59
            refine go_ops hΓ 2 rfl ?_
            refine j_cutNZ [(1, I gain), (7, .map 1), (8, .d (Sl (eN .i64) y24)), (11, .sl 3 s29.1.length), (12, S q68), (13, I (i28 : Int)), (14, I x30), (64, .d (Sl (eN .i64) z26)), (65, I (z26.length : Int)), (66, I (i28 : Int))] [.bag q4.1.1 (arX q4.1.2) [], mOb (kI .i64) false (eH none) q4.2.1, .dead, .row 45 3 s29.1.length (s29.1.flatMap e_api_Turn), .dead, .dead] ?_ ?_
            · refine j_cond rfl (fun hb => ?_) (fun hb => ?_)
              · have h70 := cT hq68 hb
                refine go hΓ 4 rfl ?_
                obtain rfl := Option.some.inj h70
                exact ⟨⟨rfl, rfl, rfl, rfl, rfl, rfl, rfl, rfl, rfl, rfl, trivial⟩, [], rfl, .inl rfl⟩
              · have h71 := cF hq68 hb
                refine go hΓ 1 rfl ?_
                obtain rfl := Option.some.inj h71
                exact ⟨⟨rfl, rfl, rfl, rfl, rfl, rfl, rfl, rfl, rfl, rfl, trivial⟩, [], rfl, .inl rfl⟩
            · obtain ⟨x72, hx72, h73⟩ := bi_ok h69
              refine go hΓ 8 rfl ?_
              refine eo_o rfl (op_elemZ hΓ (enc := (eN .i64)) hx72 rfl rfl rfl rfl rfl (fun _ => rfl)) ?_
              obtain ⟨y74, hy74, h75⟩ := bi_ok h73
              refine go_ops hΓ 1 rfl ?_
              refine eo_callF [3] (.sl 6 y74.length) [.bag q4.1.1 (arX q4.1.2) [], mOb (kI .i64) false (eH none) q4.2.1, .dead, .dead, .dead, .dead, .row 45 3 y74.length (y74.flatMap e_api_Turn)] (callable Tryd.func55 rfl rfl) (c_laneref1_addTurn hy74) rfl (Nat.le_of_ble_eq_true rfl) rfl rfl rfl rfl rfl rfl rfl rfl rfl rfl ?_
              refine go_ops hΓ 1 rfl ?_
              refine eo_move 6 3 [.bag q4.1.1 (arX q4.1.2) [], mOb (kI .i64) false (eH none) q4.2.1, .dead, .row 45 3 y74.length (y74.flatMap e_api_Turn), .dead, .dead, .dead] rfl rfl rfl rfl rfl rfl ?_
              refine go_ops hΓ 7 rfl ?_
              obtain rfl := Option.some.inj h75
              exact ⟨⟨rfl, rfl, rfl, rfl, rfl, rfl, rfl, get_eq rfl (w64_succ (Nat.lt_of_lt_of_le hlt hb34)), trivial⟩, [_, _, _], rfl, .inr ⟨HB.mk rfl, FB.mk rfl, (Nat.le_of_ble_eq_true rfl)⟩⟩
        · obtain ⟨s76, h77⟩ := hstep55 j50 x48 b51 hjsn49 hbsn49 hnsn49
          have hssn49 := h77
          refine go_ops hΓ 10 rfl ?_
          refine eo_o rfl (op_entry (kv := kS) (agg := false) (enc := (eN .i64)) m39 mr41 bs42 cl43 sn49 hjsn49 hbsn49 rfl rfl rfl rfl (fun _ => rfl)) ?_
          refine go_ops hΓ 11 rfl ?_
          refine o_cut 8 [(1, I gain), (7, .map 1), (8, .d (Sl (eN .i64) y24)), (11, .sl 3 s29.1.length), (12, S s29.2), (13, I (i28 : Int)), (14, I x30), (15, S s47), (16, S x48.1), (17, I x48.2), (64, .d (Sl (eN .i64) z26)), (65, I (z26.length : Int)), (66, I (i28 : Int)), (74, .ptr 5 0), (90, B (((s47 : Str) == []) || (decide ((x48.2 : Int) < ((mGet m39 s47).getD 0)))))] [.bag q4.1.1 (arX (hDel q4.1.2 ((mGet q4.2.1 x30).getD 0))) [(((mGet q4.2.1 x30).getD 0) - 1, 4)], mOb (kI .i64) false (eH none) q4.2.1, .dead, .row 45 3 s29.1.length (s29.1.flatMap e_api_Turn), mObS kS false (eN .i64) m39 (rawM kS (eN .i64) mr41 bs42 cl43), .iter 4 cl43 (sn49 ++ [b51])] ?_ ?_
          · refine eo_gsplit rfl rfl (fun hb => ?_) (fun hb => ?_)
            · refine go_ops hΓ 9 rfl ?_
              exact ⟨⟨rfl, rfl, rfl, rfl, rfl, rfl, rfl, rfl, rfl, rfl, rfl, rfl, rfl, rfl, get_b rfl (or_t hb), trivial⟩, [], rfl, .inl rfl⟩
            · refine go_ops hΓ 3 rfl ?_
              refine eo_guard rfl ?_
              refine eo_o rfl (op_lookupG hΓ (kv := (kI .i64)) (agg := false) (enc := (eH none)) q4.2.1 x30 (0 : Nat) rfl rfl rfl rfl (key_int .i64) rfl rfl rfl (zdv_hd rfl) rfl) ?_
              refine go_ops hΓ 1 rfl ?_
              refine eo_guard rfl ?_
              refine eo_o rfl (op_hlent 86 (hGet_pos hm39) rfl (bg := 0) (id := 4) rfl (.head _) (op_lookupG hΓ (kv := kS) (agg := false) (enc := (eN .i64)) m39 s47 (0 : Int) rfl rfl rfl rfl key_str rfl rfl rfl (zdv_plain rfl rfl rfl) rfl)) ?_
              refine go_ops hΓ 3 rfl ?_
              exact ⟨⟨rfl, rfl, rfl, rfl, rfl, rfl, rfl, rfl, rfl, rfl, rfl, rfl, rfl, rfl, get_b rfl (or_f hb), trivial⟩, [], rfl, .inl rfl⟩
          · refine go_ops hΓ 1 rfl ?_
            refine o_cut 13 [(1, I gain), (7, .map 1), (8, .d (Sl (eN .i64) y24)), (11, .sl 3 s29.1.length), (12, S s29.2), (13, I (i28 : Int)), (14, I x30), (15, S s47), (16, S x48.1), (64, .d (Sl (eN .i64) z26)), (65, I (z26.length : Int)), (66, I (i28 : Int)), (74, .ptr 5 0), (104, B ((((s47 : Str) == []) || (decide ((x48.2 : Int) < ((mGet m39 s47).getD 0)))) || (((x48.2 : Int) == ((mGet m39 s47).getD 0)) && (Op.bytesLess x48.1 s47))))] [.bag q4.1.1 (arX (hDel q4.1.2 ((mGet q4.2.1 x30).getD 0))) [(((mGet q4.2.1 x30).getD 0) - 1, 4)], mOb (kI .i64) false (eH none) q4.2.1, .dead, .row 45 3 s29.1.length (s29.1.flatMap e_api_Turn), mObS kS false (eN .i64) m39 (rawM kS (eN .i64) mr41 bs42 cl43), .iter 4 cl43 (sn49 ++ [b51])] ?_ ?_
            · refine eo_gsplit rfl rfl (fun hb => ?_) (fun hb => ?_)
              · refine go_ops hΓ 14 rfl ?_
                exact ⟨⟨rfl, rfl, rfl, rfl, rfl, rfl, rfl, rfl, rfl, rfl, rfl, rfl, rfl, get_b rfl (or_t hb), trivial⟩, [], rfl, .inl rfl⟩
              · refine go_ops hΓ 3 rfl ?_
                refine eo_guard rfl ?_
                refine eo_o rfl (op_lookupG hΓ (kv := (kI .i64)) (agg := false) (enc := (eH none)) q4.2.1 x30 (0 : Nat) rfl rfl rfl rfl (key_int .i64) rfl rfl rfl (zdv_hd rfl) rfl) ?_
                refine go_ops hΓ 1 rfl ?_
                refine eo_guard rfl ?_
                refine eo_o rfl (op_hlent 95 (hGet_pos hm39) rfl (bg := 0) (id := 4) rfl (.head _) (op_lookupG hΓ (kv := kS) (agg := false) (enc := (eN .i64)) m39 s47 (0 : Int) rfl rfl rfl rfl key_str rfl rfl rfl (zdv_plain rfl rfl rfl) rfl)) ?_
                refine go_ops hΓ 2 rfl ?_
                refine o_cut 4 [(1, I gain), (7, .map 1), (8, .d (Sl (eN .i64) y24)), (11, .sl 3 s29.1.length), (12, S s29.2), (13, I (i28 : Int)), (14, I x30), (15, S s47), (16, S x48.1), (64, .d (Sl (eN .i64) z26)), (65, I (z26.length : Int)), (66, I (i28 : Int)), (74, .ptr 5 0), (91, B false), (103, B (((x48.2 : Int) == ((mGet m39 s47).getD 0)) && (Op.bytesLess x48.1 s47)))] [.bag q4.1.1 (arX (hDel q4.1.2 ((mGet q4.2.1 x30).getD 0))) [(((mGet q4.2.1 x30).getD 0) - 1, 4)], mOb (kI .i64) false (eH none) q4.2.1, .dead, .row 45 3 s29.1.length (s29.1.flatMap e_api_Turn), mObS kS false (eN .i64) m39 (rawM kS (eN .i64) mr41 bs42 cl43), .iter 4 cl43 (sn49 ++ [b51])] ?_ ?_
                · refine eo_gsplit rfl rfl (fun hb => ?_) (fun hb => ?_)
                  · refine go_ops hΓ 5 rfl ?_
                    exact ⟨⟨rfl, rfl, rfl, rfl, rfl, rfl, rfl, rfl, rfl, rfl, rfl, rfl, rfl, rfl, get_b rfl (and_t hb), trivial⟩, [], rfl, .inl rfl⟩
                  · refine go_ops hΓ 5 rfl ?_
                    exact ⟨⟨rfl, rfl, rfl, rfl, rfl, rfl, rfl, rfl, rfl, rfl, rfl, rfl, rfl, rfl, get_b rfl (and_f hb), trivial⟩, [], rfl, .inl rfl⟩
                · refine go_ops hΓ 2 rfl ?_
                  exact ⟨⟨rfl, rfl, rfl, rfl, rfl, rfl, rfl, rfl, rfl, rfl, rfl, rfl, rfl, get_b rfl (or_f hb), trivial⟩, [], rfl, .inl rfl⟩
            · refine go_ops hΓ 2 rfl ?_
              refine j_cond rfl (fun hb => ?_) (fun hb => ?_)
              · have h78 := cT h77 hb
                refine go hΓ 5 rfl ?_
                obtain rfl := Option.some.inj h78
                exact ⟨j50, x48, b51, _, hjsn49, hbsn49, hnsn49, hssn49, ⟨⟨rfl, rfl, rfl, rfl, rfl, rfl, rfl, rfl, rfl, rfl, rfl, rfl, trivial⟩, [], rfl, .inl rfl⟩⟩
              · have h79 := cF h77 hb
                refine go hΓ 2 rfl ?_
                obtain rfl := Option.some.inj h79
                exact ⟨j50, x48, b51, _, hjsn49, hbsn49, hnsn49, hssn49, ⟨⟨rfl, rfl, rfl, rfl, rfl, rfl, rfl, rfl, rfl, rfl, rfl, rfl, trivial⟩, [], rfl, .inl rfl⟩⟩
      · refine go hΓ 6 rfl ?_
        refine j_condF rfl (decide_eq_false (Int.lt_irrefl _)) ?_
        refine go hΓ 4 rfl ?_
        exact ⟨⟨rfl, trivial⟩, [], rfl, .inl rfl⟩
    · refine go hΓ 8 rfl ?_
      refine cv_kill 1 [.bag q4.1.1 (arX q4.1.2) [], .dead, .dead, .row 45 3 q31.1.length (q31.1.flatMap e_api_Turn)] rfl (Nat.le_of_ble_eq_true rfl) ?_
      refine cv_move 3 1 [.bag q4.1.1 (arX q4.1.2) [], .row 45 3 q31.1.length (q31.1.flatMap e_api_Turn), .dead, .dead] rfl rfl rfl rfl rfl rfl ?_
      refine cv_here ?_
      obtain rfl := Option.some.inj h32
      exact fin_objs hΓ [_, _] (.inr rfl) rfl rfl rfl rfl (.inr ⟨HB.mk rfl, rfl⟩)
theorem c_laneref1_turnAt {l : List T_api_Turn} {v_at : Int} {r : Str} (h : m_laneref1_turnAt l v_at = some r) : Pure Tryd.prog 54 [.d (Sl e_api_Turn l), I v_at] (S r) := by
  refine Pure.enter (Fr.of 0 _) Tryd.func54 rfl (Fr.of_ok _) rfl rfl ?_
  refine go_in ?_
  unfold m_laneref1_turnAt at h
  refine go hΓ 13 rfl ?_
  obtain ⟨q4, hq4, h5⟩ := bi_ok h
  refine j_bound 7 rfl fun hb7 => ?_
  refine j_cutEZ (R := fun a6 => q4 = .go a6) (fun a6 => []) (fun a6 => []) ?_ ?_
  · refine go hΓ 1 rfl ?_
    refine j_range l hq4 (fun i1 s2 => [(1, I v_at), (7, .d (Sl e_api_Turn l)), (8, I (l.length : Int)), (9, I (i1 : Int))]) (fun s2 => []) ⟨⟨rfl, rfl, rfl, rfl, trivial⟩, [], rfl, .inl rfl⟩ (fun i1 x3 s2 y11 hx8 hlt hy9 hout10 => ?_) (fun s2 hgo => ?_)
    · refine go hΓ 6 rfl ?_
      refine j_condT rfl (decide_eq_true (Int.ofNat_lt.2 hlt)) ?_
      refine go hΓ 6 rfl ?_
      refine eo_o rfl (op_elemZ hΓ (enc := e_api_Turn) (getZ_nat hx8) rfl rfl rfl rfl rfl (fun _ => rfl)) ?_
      refine go_ops hΓ 1 rfl ?_
      refine eo_alloc hΓ rfl rfl rfl (Nat.le_of_ble_eq_true rfl) ?_
      refine eo_store hΓ rfl rfl rfl rfl rfl rfl rfl rfl (Nat.le_of_ble_eq_true rfl) ?_
      refine eo_hp [.box 45 [S x3.Who, I x3.From, I x3.To]] rfl ?_
      refine go_ops hΓ 9 rfl ?_
      refine o_cut 5 [(1, I v_at), (6, .ptr 0 0), (7, .d (Sl e_api_Turn l)), (8, I (l.length : Int)), (9, I (i1 : Int)), (22, B ((decide ((x3.From : Int) ≤ v_at)) && (decide ((v_at : Int) < x3.To))))] [.box 45 [S x3.Who, I x3.From, I x3.To]] ?_ ?_
      · refine eo_gsplit rfl rfl (fun hb => ?_) (fun hb => ?_)
        · refine go_ops hΓ 6 rfl ?_
          exact ⟨⟨rfl, rfl, rfl, rfl, rfl, get_b rfl (and_t hb), trivial⟩, [], rfl, .inl rfl⟩
        · refine go_ops hΓ 6 rfl ?_
          exact ⟨⟨rfl, rfl, rfl, rfl, rfl, get_b rfl (and_f hb), trivial⟩, [], rfl, .inl rfl⟩
      · refine go_ops hΓ 2 rfl ?_
        refine j_cond rfl (fun hb => ?_) (fun hb => ?_)
        · have h12 := cT hy9 hb
          refine go hΓ 10 rfl ?_
          obtain ⟨v13, hv13, h14⟩ := bi_ok h12
          obtain rfl := Option.some.inj h14
          obtain rfl := hout10 _ rfl
          obtain rfl := Option.some.inj h5
          refine go hΓ 4 rfl ?_
          obtain rfl := Option.some.inj hv13
          exact fin_pure hΓ (.inr rfl) rfl rfl
        · have h15 := cF hy9 hb
          refine go hΓ 7 rfl ?_
          obtain rfl := Option.some.inj h15
          exact ⟨_, rfl, ⟨⟨rfl, rfl, rfl, get_eq rfl (w64_succ (Nat.lt_of_lt_of_le hlt hb7)), trivial⟩, [_], rfl, .inr ⟨HB.mk rfl, FB.mk rfl, (Nat.le_of_ble_eq_true rfl)⟩⟩⟩
    · subst hgo
      refine go hΓ 6 rfl ?_
      refine j_condF rfl (decide_eq_false (Int.lt_irrefl _)) ?_
      refine go hΓ 4 rfl ?_
      exact ⟨_, rfl, ⟨trivial, [], rfl, .inl rfl⟩⟩
  · intro a6 ha
    subst ha
    replace h5 := goI_l h5
    refine go hΓ 7 rfl ?_
    obtain rfl := Option.some.inj h5
    exact fin_pure hΓ (.inr rfl) rfl rfl
theorem c_laneref1_HomeAt {l : List T_api_Probe} {gain : Int} {node : Str} {v_at : Int} {al : BagT} {r : Str × BagT} (h : m_laneref1_HomeAt l gain node v_at al = some r) : EC Tryd.prog 18 [.d (Sl e_api_Probe l), I gain, S node, I v_at] [.bag al.1 (arX al.2) []] fun g hp' => g = S r.1 ∧ hp' = [.bag r.2.1 (arX r.2.2) []] := by
  refine ec_enter (Fr.of 0 _) Tryd.func18 rfl (Fr.of_ok _) (Nat.le_of_ble_eq_true rfl) fun _ => ?_
  refine go_in ?_
  unfold m_laneref1_HomeAt at h
  obtain ⟨y1, hy1, h2⟩ := bi_ok h
  refine go hΓ 10 rfl ?_
  refine eo_callF [0] (.sl 1 y1.1.length) [.bag y1.2.1 (arX y1.2.2) [], .row 45 3 y1.1.length (y1.1.flatMap e_api_Turn)] (callable Tryd.func21 rfl rfl) (c_laneref1_HomeTurns hy1) rfl (Nat.le_of_ble_eq_true rfl) rfl rfl rfl rfl rfl rfl rfl rfl rfl rfl ?_
  refine eo_shr 1 [12] _ [.bag y1.2.1 (arX y1.2.2) [], .dead] rfl rfl rfl (Nat.le_of_ble_eq_true rfl) ?_
  obtain ⟨y3, hy3, h4⟩ := bi_ok h2
  refine go_ops hΓ 1 rfl ?_
  refine eo_callP (callable Tryd.func54 rfl rfl) (c_laneref1_turnAt hy3) rfl (Nat.le_of_ble_eq_true rfl) rfl rfl rfl rfl rfl ?_
  refine go_ops hΓ 4 rfl ?_
  obtain rfl := Option.some.inj h4
  exact fin_objs hΓ [_] (.inr rfl) rfl rfl rfl rfl (.inr ⟨HB.mk rfl, rfl⟩)
theorem c_lanelaw1_when {is : Bool} {e : Int} {r : Int} (h : m_lanelaw1_when is e = some r) : Pure Tryd.prog 19 [B is, I e] (I r) := by
  refine Pure.enter (Fr.of 0 _) Tryd.func19 rfl (Fr.of_ok _) rfl rfl ?_
  refine go_in ?_
  unfold m_lanelaw1_when at h
  refine go hΓ 11 rfl ?_
  refine j_cond rfl (fun hb => ?_) (fun hb => ?_)
  · have h1 := cT h hb
    refine go hΓ 8 rfl ?_
    obtain rfl := Option.some.inj h1
    exact fin_pure hΓ (.inr rfl) rfl rfl
  · have h2 := cF h hb
    refine go hΓ 8 rfl ?_
    obtain rfl := Option.some.inj h2
    exact fin_pure hΓ (.inr rfl) rfl rfl
theorem c_slices_Equal_api_Turn_api_Turn {s1 : List T_api_Turn} {s2 : List T_api_Turn} {r : Bool} (h : m_slices_Equal_api_Turn_api_Turn s1 s2 = some r) : Pure Tryd.prog 20 [.d (Sl e_api_Turn s1), .d (Sl e_api_Turn s2)] (B r) := by
  refine Pure.enter (Fr.of 0 _) Tryd.func20 rfl (Fr.of_ok _) rfl rfl ?_
  refine go_in ?_
  unfold m_slices_Equal_api_Turn_api_Turn at h
  refine go hΓ 15 rfl ?_
  refine j_cond rfl (fun hb => ?_) (fun hb => ?_)
  · have h1 := cT h hb
    refine go hΓ 7 rfl ?_
    obtain rfl := Option.some.inj h1
    exact fin_pure hΓ (.inr rfl) rfl rfl
  · have h2 := cF h hb
    refine go hΓ 10 rfl ?_
    obtain ⟨q6, hq6, h7⟩ := bi_ok h2
    refine j_bound 0 rfl fun hb9 => ?_
    refine j_cutEZ (R := fun a8 => q6 = .go a8) (fun a8 => []) (fun a8 => []) ?_ ?_
    · refine go hΓ 1 rfl ?_
      refine j_range s1 hq6 (fun i3 s4 => [(0, .d (Sl e_api_Turn s1)), (1, .d (Sl e_api_Turn s2)), (12, I (s1.length : Int)), (13, I (i3 : Int))]) (fun s4 => []) ⟨⟨rfl, rfl, rfl, rfl, trivial⟩, [], rfl, .inl rfl⟩ (fun i3 x5 s4 y13 hx10 hlt hy11 hout12 => ?_) (fun s4 hgo => ?_)
      · refine go hΓ 6 rfl ?_
        refine j_condT rfl (decide_eq_true (Int.ofNat_lt.2 hlt)) ?_
        refine go hΓ 11 rfl ?_
        refine j_draw hmix (by kernel_rfl) ?_
        refine go hΓ 2 rfl ?_
        refine gl_o rfl (op_elemZ hΓ (enc := e_api_Turn) (getZ_nat hx10) rfl rfl rfl rfl rfl (fun _ => rfl)) ?_
        obtain ⟨x14, hx14, h15⟩ := bi_ok hy11
        refine go_draw hΓ 3 rfl ?_
        refine gl_o rfl (op_elemZ hΓ (enc := e_api_Turn) hx14 rfl rfl rfl rfl rfl (fun _ => rfl)) ?_
        refine go_draw hΓ 1 rfl ?_
        refine gl_o rfl (op_neS hΓ [45] (b := (((x5.Who : Str) == x14.Who) && (((x5.From : Int) == x14.From) && (((x5.To : Int) == x14.To) && true)))) (by kernel_rfl) (by kernel_rfl) rfl rfl rfl) ?_
        refine go_draw hΓ 2 rfl ?_
        refine j_cond rfl (fun hb => ?_) (fun hb => ?_)
        · have h16 := cT h15 hb
          refine go hΓ 8 rfl ?_
          obtain ⟨v17, hv17, h18⟩ := bi_ok h16
          obtain rfl := Option.some.inj h18
          obtain rfl := hout12 _ rfl
          obtain rfl := Option.some.inj h7
          refine go hΓ 4 rfl ?_
          obtain rfl := Option.some.inj hv17
          exact fin_pure hΓ (.inr rfl) rfl rfl
        · have h19 := cF h15 hb
          refine go hΓ 7 rfl ?_
          obtain rfl := Option.some.inj h19
          exact ⟨_, rfl, ⟨⟨rfl, rfl, rfl, get_eq rfl (w64_succ (Nat.lt_of_lt_of_le hlt hb9)), trivial⟩, [], rfl, .inl rfl⟩⟩
      · subst hgo
        refine go hΓ 6 rfl ?_
        refine j_condF rfl (decide_eq_false (Int.lt_irrefl _)) ?_
        refine go hΓ 4 rfl ?_
        exact ⟨_, rfl, ⟨trivial, [], rfl, .inl rfl⟩⟩
    · intro a8 ha
      subst ha
      replace h7 := goI_l h7
      refine go hΓ 7 rfl ?_
      obtain rfl := Option.some.inj h7
      exact fin_pure hΓ (.inr rfl) rfl rfl
set_option maxHeartbeats 8000000 in
theorem c_route_CheckLinks {k : Nat} {l : List T_api_Link} {r : Int} (h : m_route_CheckLinks k l = some r) : Pure Tryd.prog 26 [.d (Sl e_api_Link l)] (I r) := by
  refine Pure.enter (Fr.of 0 _) Tryd.func26 rfl (Fr.of_ok _) rfl rfl ?_
  refine go_in ?_
  unfold m_route_CheckLinks at h
  refine go hΓ 13 rfl ?_
  refine j_cond rfl (fun hb => ?_) (fun hb => ?_)
  · have h1 := cT h hb
    refine go hΓ 7 rfl ?_
    obtain rfl := Option.some.inj h1
    exact fin_pure hΓ (.inr rfl) rfl rfl
  · have h2 := cF h hb
    refine go hΓ 10 rfl ?_
    obtain ⟨q6, hq6, h7⟩ := bi_ok h2
    refine j_bound 0 rfl fun hb9 => ?_
    refine j_cutEZ (R := fun a8 => q6 = .go a8) (fun a8 => []) (fun a8 => []) ?_ ?_
    · refine go hΓ 1 rfl ?_
      refine j_range l hq6 (fun i3 s4 => [(0, .d (Sl e_api_Link l)), (8, .d (Sl e_api_Link l)), (9, I (l.length : Int)), (10, I (i3 : Int))]) (fun s4 => []) ⟨⟨rfl, rfl, rfl, rfl, trivial⟩, [], rfl, .inl rfl⟩ (fun i3 x5 s4 y13 hx10 hlt hy11 hout12 => ?_) (fun s4 hgo => ?_)
      · refine go hΓ 6 rfl ?_
        refine j_condT rfl (decide_eq_true (Int.ofNat_lt.2 hlt)) ?_
        refine go hΓ 7 rfl ?_
        refine eo_o rfl (op_elemZ hΓ (enc := e_api_Link) (getZ_nat hx10) rfl rfl rfl rfl rfl (fun _ => rfl)) ?_
        refine go_ops hΓ 1 rfl ?_
        refine eo_alloc hΓ rfl rfl rfl (Nat.le_of_ble_eq_true rfl) ?_
        refine go_ops hΓ 1 rfl ?_
        refine eo_store hΓ rfl rfl rfl rfl rfl rfl rfl rfl (Nat.le_of_ble_eq_true rfl) ?_
        refine eo_hp [.box 80 [S x5.A, S x5.v_B, I x5.Millis]] rfl ?_
        obtain ⟨y14, hy14, h15⟩ := bi_ok hy11
        refine go_ops hΓ 7 rfl ?_
        refine eo_callP (callable Tryd.func51 rfl rfl) (c_kit_IsKey hy14) rfl (Nat.le_of_ble_eq_true rfl) rfl rfl rfl rfl rfl ?_
        refine go_ops hΓ 2 rfl ?_
        obtain ⟨q16, hq16, h17⟩ := bi_ok h15
        refine o_cut 5 [(0, .d (Sl e_api_Link l)), (3, I (i3 : Int)), (4, .ptr 0 0), (8, .d (Sl e_api_Link l)), (9, I (l.length : Int)), (10, I (i3 : Int)), (25, B q16)] [.box 80 [S x5.A, S x5.v_B, I x5.Millis]] ?_ ?_
        · refine eo_gsplit rfl rfl (fun hb => ?_) (fun hb => ?_)
          · have h18 := cT hq16 hb
            refine go_ops hΓ 6 rfl ?_
            obtain rfl := Option.some.inj h18
            exact ⟨⟨rfl, rfl, rfl, rfl, rfl, rfl, rfl, trivial⟩, [], rfl, .inl rfl⟩
          · have h19 := cF hq16 hb
            obtain ⟨y20, hy20, h21⟩ := bi_ok h19
            refine go_ops hΓ 2 rfl ?_
            refine eo_guard rfl ?_
            refine eo_callP (callable Tryd.func51 rfl rfl) (c_kit_IsKey hy20) rfl (Nat.le_of_ble_eq_true rfl) rfl rfl rfl rfl rfl ?_
            refine go_ops hΓ 3 rfl ?_
            obtain rfl := Option.some.inj h21
            exact ⟨⟨rfl, rfl, rfl, rfl, rfl, rfl, rfl, trivial⟩, [], rfl, .inl rfl⟩
        · refine go_ops hΓ 3 rfl ?_
          refine j_cond rfl (fun hb => ?_) (fun hb => ?_)
          · have h22 := cT h17 hb
            refine go hΓ 9 rfl ?_
            obtain ⟨v23, hv23, h24⟩ := bi_ok h22
            obtain rfl := Option.some.inj h24
            obtain rfl := hout12 _ rfl
            obtain rfl := Option.some.inj h7
            refine go hΓ 4 rfl ?_
            obtain rfl := Option.some.inj hv23
            exact fin_pure hΓ (.inr rfl) rfl rfl
          · have h25 := cF h17 hb
            refine go hΓ 10 rfl ?_
            refine j_cond rfl (fun hb => ?_) (fun hb => ?_)
            · have h26 := cT h25 hb
              refine go hΓ 9 rfl ?_
              obtain ⟨v27, hv27, h28⟩ := bi_ok h26
              obtain rfl := Option.some.inj h28
              obtain rfl := hout12 _ rfl
              obtain rfl := Option.some.inj h7
              refine go hΓ 4 rfl ?_
              obtain rfl := Option.some.inj hv27
              exact fin_pure hΓ (.inr rfl) rfl rfl
            · have h29 := cF h25 hb
              obtain ⟨y30, hy30, h31⟩ := bi_ok h29
              refine go hΓ 4 rfl ?_
              refine eo_callP (callable Tryd.func52 rfl rfl) (c_kit_Outside hy30) rfl (Nat.le_of_ble_eq_true rfl) rfl rfl rfl rfl rfl ?_
              refine go_ops hΓ 3 rfl ?_
              refine j_cond rfl (fun hb => ?_) (fun hb => ?_)
              · have h32 := cT h31 hb
                refine go hΓ 9 rfl ?_
                obtain ⟨v33, hv33, h34⟩ := bi_ok h32
                obtain rfl := Option.some.inj h34
                obtain rfl := hout12 _ rfl
                obtain rfl := Option.some.inj h7
                refine go hΓ 4 rfl ?_
                obtain rfl := Option.some.inj hv33
                exact fin_pure hΓ (.inr rfl) rfl rfl
              · have h35 := cF h31 hb
                obtain ⟨q36, hq36, h37⟩ := bi_ok h35
                refine go hΓ 1 rfl ?_
                refine j_cutNZ [(0, .d (Sl e_api_Link l)), (8, .d (Sl e_api_Link l)), (9, I (l.length : Int)), (10, I (i3 : Int)), (36, B q36)] [.box 80 [S x5.A, S x5.v_B, I x5.Millis]] ?_ ?_
                · refine j_drawE [.box 80 [S x5.A, S x5.v_B, I x5.Millis]] [10, 19] [] [] hmix (by kernel_rfl) (by kernel_rfl) ⟨rfl, trivial⟩ (Nat.le_of_ble_eq_true rfl) ?_
                  refine go_E hΓ 3 rfl ?_
                  refine ge_gsplit rfl rfl (fun hb => ?_) (fun hb => ?_)
                  · have h38 := cT hq36 hb
                    obtain ⟨x39, hx39, h40⟩ := bi_ok h38
                    refine go_E hΓ 3 rfl ?_
                    refine ge_q rfl (.inr ⟨_, _, rfl, rfl⟩) (fun _ _ => qte_of_qt (qt_p (op_elemZ hΓ (enc := e_api_Link) hx39 rfl rfl rfl rfl rfl (fun _ => rfl)))) ?_
                    obtain ⟨y41, hy41, h42⟩ := bi_ok h40
                    refine go_E hΓ 4 rfl ?_
                    refine ge_callPg rfl (callable Tryd.func49 rfl rfl) (c_strings_Compare hy41) rfl rfl rfl rfl rfl rfl ?_
                    obtain ⟨x43, hx43, h44⟩ := bi_ok h42
                    refine go_E hΓ 3 rfl ?_
                    refine ge_q rfl (.inr ⟨_, _, rfl, rfl⟩) (fun _ _ => qte_of_qt (qt_p (op_elemZ hΓ (enc := e_api_Link) hx43 rfl rfl rfl rfl rfl (fun _ => rfl)))) ?_
                    obtain ⟨y45, hy45, h46⟩ := bi_ok h44
                    refine go_E hΓ 4 rfl ?_
                    refine ge_callPg rfl (callable Tryd.func49 rfl rfl) (c_strings_Compare hy45) rfl rfl rfl rfl rfl rfl ?_
                    refine ge_litTg hΓ (enc := (eN .i64)) [y41, y45] rfl rfl rfl rfl rfl rfl rfl rfl rfl rfl rfl rfl rfl ?_
                    obtain ⟨y47, hy47, h48⟩ := bi_ok h46
                    refine ge_callPg rfl (callable Tryd.func47 rfl rfl) (c_cmp_Or_int hy47) rfl rfl rfl rfl rfl rfl ?_
                    refine go_E hΓ 3 rfl ?_
                    refine ge_fin ?_
                    obtain rfl := Option.some.inj h48
                    exact ⟨⟨rfl, rfl, rfl, rfl, rfl, trivial⟩, [], rfl, .inl rfl⟩
                  · have h49 := cF hq36 hb
                    refine go_E hΓ 23 rfl ?_
                    refine ge_fin ?_
                    obtain rfl := Option.some.inj h49
                    exact ⟨⟨rfl, rfl, rfl, rfl, rfl, trivial⟩, [], rfl, .inl rfl⟩
                · refine go hΓ 1 rfl ?_
                  refine j_cond rfl (fun hb => ?_) (fun hb => ?_)
                  · have h50 := cT h37 hb
                    refine go hΓ 9 rfl ?_
                    obtain ⟨v51, hv51, h52⟩ := bi_ok h50
                    obtain rfl := Option.some.inj h52
                    obtain rfl := hout12 _ rfl
                    obtain rfl := Option.some.inj h7
                    refine go hΓ 4 rfl ?_
                    obtain rfl := Option.some.inj hv51
                    exact fin_pure hΓ (.inr rfl) rfl rfl
                  · have h53 := cF h37 hb
                    refine go hΓ 8 rfl ?_
                    obtain rfl := Option.some.inj h53
                    exact ⟨_, rfl, ⟨⟨rfl, rfl, rfl, get_eq rfl (w64_succ (Nat.lt_of_lt_of_le hlt hb9)), trivial⟩, [_], rfl, .inr ⟨HB.mk rfl, FB.mk rfl, (Nat.le_of_ble_eq_true rfl)⟩⟩⟩
      · subst hgo
        refine go hΓ 6 rfl ?_
        refine j_condF rfl (decide_eq_false (Int.lt_irrefl _)) ?_
        refine go hΓ 4 rfl ?_
        exact ⟨_, rfl, ⟨trivial, [], rfl, .inl rfl⟩⟩
    · intro a8 ha
      subst ha
      replace h7 := goI_l h7
      refine go hΓ 7 rfl ?_
      obtain rfl := Option.some.inj h7
      exact fin_pure hΓ (.inr rfl) rfl rfl
theorem c_route_stepsOf {l : List T_api_Link} {al : BagT} {r : (List (Str × (Tl T_route_step))) × BagT} (h : m_route_stepsOf l al = some r) : EC Tryd.prog 76 [.d (Sl e_api_Link l)] [.bag al.1 (arX al.2) []] fun g hp' => g = .map 1 ∧ hp' = [.bag r.2.1 (arX r.2.2) [], mOb kS false (eT 112 2 e_route_step) r.1] := by
  refine ec_enterC (Fr.of 0 _) Tryd.func76 rfl (Fr.of_ok _) (Nat.le_of_ble_eq_true rfl) fun _ => ?_
  refine go_in ?_
  unfold m_route_stepsOf at h
  refine go hΓ 7 rfl ?_
  refine eo_s (Nat.le_of_ble_eq_true rfl) (nblt.1 rfl) (ops_makeMap false) ?_
  refine eo_hp [.bag al.1 (arX al.2) [], mOb kS false (eT 112 2 e_route_step) ([] : List (Str × (Tl T_route_step)))] rfl ?_
  refine go_ops hΓ 11 rfl ?_
  obtain ⟨q4, hq4, h5⟩ := bi_ok h
  refine j_bound 7 rfl fun hb7 => ?_
  refine j_cutNZ [(3, .map 1)] [.bag q4.1.1 (arX q4.1.2) [], mOb kS false (eT 112 2 e_route_step) q4.2] ?_ ?_
  · refine go hΓ 1 rfl ?_
    refine j_rangeF l hq4 (fun i1 s2 => [(3, .map 1), (7, .d (Sl e_api_Link l)), (8, I (l.length : Int)), (9, I (i1 : Int))]) (fun s2 => [.bag s2.1.1 (arX s2.1.2) [], mOb kS false (eT 112 2 e_route_step) s2.2]) ⟨⟨rfl, rfl, rfl, rfl, trivial⟩, [], rfl, .inl rfl⟩ (fun i1 x3 s2 y11 hx8 hlt hy9 => ?_) (?_)
    · refine go hΓ 6 rfl ?_
      refine j_condT rfl (decide_eq_true (Int.ofNat_lt.2 hlt)) ?_
      refine go hΓ 6 rfl ?_
      refine eo_o rfl (op_elemZ hΓ (enc := e_api_Link) (getZ_nat hx8) rfl rfl rfl rfl rfl (fun _ => rfl)) ?_
      refine go_ops hΓ 1 rfl ?_
      refine eo_alloc hΓ rfl rfl rfl (Nat.le_of_ble_eq_true rfl) ?_
      refine eo_store hΓ rfl rfl rfl rfl rfl rfl rfl rfl (Nat.le_of_ble_eq_true rfl) ?_
      refine eo_hp [.bag s2.1.1 (arX s2.1.2) [], mOb kS false (eT 112 2 e_route_step) s2.2, .box 80 [S x3.A, S x3.v_B, I x3.Millis]] rfl ?_
      refine go_ops hΓ 3 rfl ?_
      refine j_drawE [.dead, mOb kS false (eT 112 2 e_route_step) s2.2, .box 80 [S x3.A, S x3.v_B, I x3.Millis]] [2, 5, 6, 8, 10] [13, 14] [14] hmix (by kernel_rfl) (by kernel_rfl) ⟨rfl, rfl, trivial⟩ (Nat.le_of_ble_eq_true rfl) ?_
      refine go_E hΓ 6 rfl ?_
      refine ge_p rfl (fun hp hs => op_lookupT hΓ (kv := kS) (te := 112) (sz := 2) (enc := e_route_step) s2.2 x3.A rfl rfl rfl rfl key_str rfl (hs 1 _ rfl rfl) rfl rfl rfl) rfl ?_
      refine go_E hΓ 4 rfl ?_
      refine ge_q rfl (.inl rfl) (fun _ _ => qte_of_qt (qt_p (op_build hΓ (gs := [S x3.v_B, I x3.Millis]) rfl rfl rfl rfl rfl rfl))) ?_
      refine ge_litT hΓ (enc := e_route_step) [(⟨x3.v_B, x3.Millis⟩ : T_route_step)] rfl rfl rfl rfl rfl rfl rfl rfl rfl rfl rfl rfl ?_
      obtain ⟨y12, hy12, h13⟩ := bi_ok hy9
      refine ge_h [.bag y12.2 (arX s2.1.2) [], mOb kS false (eT 112 2 e_route_step) s2.2, .box 80 [S x3.A, S x3.v_B, I x3.Millis]] rfl rfl rfl (st_st ⟨rfl, rfl, trivial⟩) (qte_s (ops_appT hΓ (enc := e_route_step) (bg := 0) hy12 rfl rfl rfl rfl rfl rfl rfl rfl (fun _ => rfl) rfl rfl)) ?_
      refine ge_h0 [.bag y12.2 (arX s2.1.2) [], mOb kS false (eT 112 2 e_route_step) (mSet s2.2 x3.A y12.1), .box 80 [S x3.A, S x3.v_B, I x3.Millis]] rfl rfl (brk_st rfl) (qte_u (opu_mapUpdate hΓ (kv := kS) (agg := false) (enc := (eT 112 2 e_route_step)) (id := 1) s2.2 x3.A y12.1 rfl rfl rfl key_str rfl rfl rfl rfl rfl)) ?_
      refine ge_fin ?_
      refine go hΓ 1 rfl ?_
      refine j_drawE [.dead, mOb kS false (eT 112 2 e_route_step) (mSet s2.2 x3.A y12.1), .box 80 [S x3.A, S x3.v_B, I x3.Millis]] [2, 5, 6, 8, 10] [13, 14] [14] hmix (by kernel_rfl) (by kernel_rfl) ⟨rfl, rfl, trivial⟩ (Nat.le_of_ble_eq_true rfl) ?_
      refine go_E hΓ 6 rfl ?_
      refine ge_p rfl (fun hp hs => op_lookupT hΓ (kv := kS) (te := 112) (sz := 2) (enc := e_route_step) (mSet s2.2 x3.A y12.1) x3.v_B rfl rfl rfl rfl key_str rfl (hs 1 _ rfl rfl) rfl rfl rfl) rfl ?_
      refine go_E hΓ 4 rfl ?_
      refine ge_q rfl (.inl rfl) (fun _ _ => qte_of_qt (qt_p (op_build hΓ (gs := [S x3.A, I x3.Millis]) rfl rfl rfl rfl rfl rfl))) ?_
      refine ge_litT hΓ (enc := e_route_step) [(⟨x3.A, x3.Millis⟩ : T_route_step)] rfl rfl rfl rfl rfl rfl rfl rfl rfl rfl rfl rfl ?_
      obtain ⟨y14, hy14, h15⟩ := bi_ok h13
      refine ge_h [.bag y14.2 (arX s2.1.2) [], mOb kS false (eT 112 2 e_route_step) (mSet s2.2 x3.A y12.1), .box 80 [S x3.A, S x3.v_B, I x3.Millis]] rfl rfl rfl (st_st ⟨rfl, rfl, trivial⟩) (qte_s (ops_appT hΓ (enc := e_route_step) (bg := 0) hy14 rfl rfl rfl rfl rfl rfl rfl rfl (fun _ => rfl) rfl rfl)) ?_
      refine ge_h0 [.bag y14.2 (arX s2.1.2) [], mOb kS false (eT 112 2 e_route_step) (mSet (mSet s2.2 x3.A y12.1) x3.v_B y14.1), .box 80 [S x3.A, S x3.v_B, I x3.Millis]] rfl rfl (brk_st rfl) (qte_u (opu_mapUpdate hΓ (kv := kS) (agg := false) (enc := (eT 112 2 e_route_step)) (id := 1) (mSet s2.2 x3.A y12.1) x3.v_B y14.1 rfl rfl rfl key_str rfl rfl rfl rfl rfl)) ?_
      refine ge_fin ?_
      refine go hΓ 6 rfl ?_
      obtain rfl := Option.some.inj h15
      exact ⟨⟨rfl, rfl, rfl, get_eq rfl (w64_succ (Nat.lt_of_lt_of_le hlt hb7)), trivial⟩, [_], rfl, .inr ⟨HB.mk rfl, FB.mk rfl, (Nat.le_of_ble_eq_true rfl)⟩⟩
    · refine go hΓ 6 rfl ?_
      refine j_condF rfl (decide_eq_false (Int.lt_irrefl _)) ?_
      refine go hΓ 4 rfl ?_
      exact ⟨⟨rfl, trivial⟩, [], rfl, .inl rfl⟩
  · refine go hΓ 8 rfl ?_
    refine cv_here ?_
    obtain rfl := Option.some.inj h5
    exact fin_objs hΓ [] (.inr rfl) rfl rfl rfl rfl (.inl rfl)
theorem c_route_far_less {a : T_route_far} {b : T_route_far} {r : Bool} (h : m_route_far_less a b = some r) : Pure Tryd.prog 85 [.agg [I a.millis, I a.links], .agg [I b.millis, I b.links]] (B r) := by
  refine Pure.enter (Fr.of 0 _) Tryd.func85 rfl (Fr.of_ok _) rfl rfl ?_
  refine go_in ?_
  unfold m_route_far_less at h
  refine go hΓ 2 rfl ?_
  refine eo_box rfl rfl rfl rfl (Nat.le_of_ble_eq_true rfl) ?_
  refine eo_box rfl rfl rfl rfl (Nat.le_of_ble_eq_true rfl) ?_
  refine go_ops hΓ 11 rfl ?_
  refine o_cut 13 [(4, B false), (23, B ((decide ((a.millis : Int) < b.millis)) || (((a.millis : Int) == b.millis) && (decide ((a.links : Int) < b.links)))))] [.box 108 [I a.millis, I a.links], .box 108 [I b.millis, I b.links]] ?_ ?_
  · refine eo_gsplit rfl rfl (fun hb => ?_) (fun hb => ?_)
    · refine go_ops hΓ 14 rfl ?_
      exact ⟨⟨rfl, get_b rfl (or_t hb), trivial⟩, [], rfl, .inl rfl⟩
    · refine go_ops hΓ 6 rfl ?_
      refine o_cut 6 [(4, B false), (10, B false), (22, B (((a.millis : Int) == b.millis) && (decide ((a.links : Int) < b.links))))] [.box 108 [I a.millis, I a.links], .box 108 [I b.millis, I b.links]] ?_ ?_
      · refine eo_gsplit rfl rfl (fun hb => ?_) (fun hb => ?_)
        · refine go_ops hΓ 7 rfl ?_
          exact ⟨⟨rfl, rfl, get_b rfl (and_t hb), trivial⟩, [], rfl, .inl rfl⟩
        · refine go_ops hΓ 7 rfl ?_
          exact ⟨⟨rfl, rfl, get_b rfl (and_f hb), trivial⟩, [], rfl, .inl rfl⟩
      · refine go_ops hΓ 2 rfl ?_
        exact ⟨⟨rfl, get_b rfl (or_f hb), trivial⟩, [], rfl, .inl rfl⟩
  · refine go_ops hΓ 4 rfl ?_
    obtain rfl := Option.some.inj h
    exact fin_pure hΓ (.inr rfl) rfl rfl
set_option maxHeartbeats 8000000 in
theorem c_route_distances {k : Nat} {steps : List (Str × (Tl T_route_step))} {v_from : Str} {r : List (Str × T_route_far)} (h : m_route_distances k steps v_from = some r) : EC Tryd.prog 77 [.map 0, S v_from] [mOb kS false (eT 112 2 e_route_step) steps] fun g hp' => g = .map 1 ∧ hp' = [mOb kS false (eT 112 2 e_route_step) steps, mOb kS true e_route_far r] := by
  refine ec_enterC (Fr.of 0 _) Tryd.func77 rfl (Fr.of_ok _) (Nat.le_of_ble_eq_true rfl) fun _ => ?_
  refine go_in ?_
  unfold m_route_distances at h
  refine go hΓ 7 rfl ?_
  refine eo_s (Nat.le_of_ble_eq_true rfl) (nblt.1 rfl) (ops_makeMap true) ?_
  refine eo_hp [mOb kS false (eT 112 2 e_route_step) steps, mOb kS true e_route_far ([] : List (Str × T_route_far))] rfl ?_
  refine go_ops hΓ 1 rfl ?_
  refine eo_build hΓ (gs := [I 0, I 0]) rfl rfl rfl rfl rfl rfl rfl ?_
  refine eo_u (Nat.le_of_ble_eq_true rfl) (opu_insert hΓ (kv := kS) (agg := true) (enc := e_route_far) (id := 1) ([] : List (Str × T_route_far)) v_from (⟨0, 0⟩ : T_route_far) rfl rfl rfl key_str rfl rfl rfl rfl rfl) ?_
  refine eo_hp [mOb kS false (eT 112 2 e_route_step) steps, mOb kS true e_route_far (mSet ([] : List (Str × T_route_far)) v_from (⟨0, 0⟩ : T_route_far))] rfl ?_
  refine go_ops hΓ 6 rfl ?_
  refine eo_s (Nat.le_of_ble_eq_true rfl) (nblt.1 rfl) (ops_makeMap false) ?_
  refine eo_hp [mOb kS false (eT 112 2 e_route_step) steps, mOb kS true e_route_far (mSet ([] : List (Str × T_route_far)) v_from (⟨0, 0⟩ : T_route_far)), mOb kS false eB ([] : List (Str × Bool))] rfl ?_
  refine go_ops hΓ 3 rfl ?_
  obtain ⟨q4, hq4, h5⟩ := bi_ok h
  refine go hΓ 1 rfl ?_
  refine j_loop hq4 (fun s2 => [(0, .map 0), (5, .map 1), (6, .map 2)]) (fun s2 => [mOb kS false (eT 112 2 e_route_step) steps, mOb kS true e_route_far s2.1, mOb kS false eB s2.2]) ⟨⟨rfl, rfl, rfl, trivial⟩, [], rfl, .inl rfl⟩ (fun s2 y10 hy8 hout9 => ?_)
  refine go hΓ 11 rfl ?_
  refine eo_range hΓ (kv := kS) (agg := true) (enc := e_route_far) s2.1 rfl rfl rfl rfl rfl (Nat.le_of_ble_eq_true rfl) (fun mr11 bs12 cl13 hpm14 hbl15 hbn16 => ?_)
  refine eo_hp [mOb kS false (eT 112 2 e_route_step) steps, mObS kS true e_route_far s2.1 (rawM kS e_route_far mr11 bs12 cl13), mOb kS false eB s2.2, .iter 1 cl13 []] rfl ?_
  refine go_ops hΓ 2 rfl ?_
  obtain ⟨q22, hq22, h23⟩ := bi_ok hy8
  refine go hΓ 1 rfl ?_
  refine j_rangeP hq22 hpm14 hbl15 hbn16 (fun s17 => [(0, .map 0), (5, .map 1), (6, .map 2), (7, S s17.1), (8, B s17.2), (22, .ptr 3 0)]) (fun sn19 s17 => [mOb kS false (eT 112 2 e_route_step) steps, mObS kS true e_route_far s2.1 (rawM kS e_route_far mr11 bs12 cl13), mOb kS false eB s2.2, .iter 1 cl13 sn19]) ⟨⟨rfl, rfl, rfl, rfl, rfl, rfl, trivial⟩, [], rfl, .inl rfl⟩ (fun sn19 s17 hdone24 hstep25 => ?_)
  refine go hΓ 2 rfl ?_
  refine eo_next (kv := kS) (agg := true) (enc := e_route_far) s2.1 mr11 bs12 cl13 sn19 [mOb kS false (eT 112 2 e_route_step) steps, mOb kS true e_route_far s2.1, mOb kS false eB s2.2, .dead] rfl rfl rfl rfl rfl (Nat.le_of_ble_eq_true rfl) (fun hdsn19 => ?_) (fun j20 x18 b21 hjsn19 hbsn19 hnsn19 => ?_)
  · have hqsn19 := hdone24 hdsn19
    subst hqsn19
    refine go_ops hΓ 17 rfl ?_
    refine j_cond rfl (fun hb => ?_) (fun hb => ?_)
    · have h26 := cT h23 hb
      refine go hΓ 9 rfl ?_
      obtain ⟨v27, hv27, h28⟩ := bi_ok h26
      obtain rfl := Option.some.inj h28
      obtain rfl := hout9 _ rfl
      obtain rfl := Option.some.inj h5
      refine go hΓ 2 rfl ?_
      refine cv_here ?_
      obtain rfl := Option.some.inj hv27
      exact fin_objs hΓ [_, _] (.inr rfl) rfl rfl rfl rfl (.inr ⟨HB.mk rfl, rfl⟩)
    · have h29 := cF h23 hb
      refine go hΓ 6 rfl ?_
      refine eo_u (Nat.le_of_ble_eq_true rfl) (opu_mapUpdate hΓ (kv := kS) (agg := false) (enc := eB) (id := 2) s2.2 q22.1 true rfl rfl rfl key_str rfl rfl rfl rfl rfl) ?_
      refine eo_hp [mOb kS false (eT 112 2 e_route_step) steps, mOb kS true e_route_far s2.1, mOb kS false eB (mSet s2.2 q22.1 true), .dead] rfl ?_
      refine go_ops hΓ 6 rfl ?_
      refine eo_o rfl (op_le (op_lookupT hΓ (kv := kS) (te := 112) (sz := 2) (enc := e_route_step) steps q22.1 rfl rfl rfl rfl key_str rfl rfl rfl rfl rfl) G.Le.unt) ?_
      refine go_ops hΓ 4 rfl ?_
      obtain ⟨q33, hq33, h34⟩ := bi_ok h29
      refine j_bound 51 rfl fun hb36 => ?_
      refine j_cutNZ [(0, .map 0), (5, .map 1), (6, .map 2)] [mOb kS false (eT 112 2 e_route_step) steps, mOb kS true e_route_far q33, mOb kS false eB (mSet s2.2 q22.1 true), .dead] ?_ ?_
      · refine go hΓ 1 rfl ?_
        refine j_rangeF (((mGet steps q22.1).getD (1, [])).2) hq33 (fun i30 s31 => [(0, .map 0), (5, .map 1), (6, .map 2), (7, S q22.1), (51, .d (Sl e_route_step (((mGet steps q22.1).getD (1, [])).2))), (52, I ((((mGet steps q22.1).getD (1, [])).2).length : Int)), (53, I (i30 : Int))]) (fun s31 => [mOb kS false (eT 112 2 e_route_step) steps, mOb kS true e_route_far s31, mOb kS false eB (mSet s2.2 q22.1 true), .dead]) ⟨⟨rfl, rfl, rfl, rfl, rfl, rfl, rfl, trivial⟩, [], rfl, .inl rfl⟩ (fun i30 x32 s31 y40 hx37 hlt hy38 => ?_) (?_)
        · refine go hΓ 6 rfl ?_
          refine j_condT rfl (decide_eq_true (Int.ofNat_lt.2 hlt)) ?_
          refine go hΓ 6 rfl ?_
          refine eo_o rfl (op_elemZ hΓ (enc := e_route_step) (getZ_nat hx37) rfl rfl rfl rfl rfl (fun _ => rfl)) ?_
          refine go_ops hΓ 1 rfl ?_
          refine eo_alloc hΓ rfl rfl rfl (Nat.le_of_ble_eq_true rfl) ?_
          refine eo_store hΓ rfl rfl rfl rfl rfl rfl rfl rfl (Nat.le_of_ble_eq_true rfl) ?_
          refine eo_hp [mOb kS false (eT 112 2 e_route_step) steps, mOb kS true e_route_far s31, mOb kS false eB (mSet s2.2 q22.1 true), .dead, .box 112 [S x32.to, I x32.millis]] rfl ?_
          refine go_ops hΓ 6 rfl ?_
          refine eo_o rfl (op_lookup hΓ (kv := kS) (agg := true) (enc := e_route_far) s31 q22.1 ((⟨0, 0⟩ : T_route_far) : T_route_far) rfl rfl rfl rfl key_str rfl rfl rfl rfl rfl rfl rfl) ?_
          refine go_ops hΓ 6 rfl ?_
          refine eo_o rfl (op_lookup hΓ (kv := kS) (agg := true) (enc := e_route_far) s31 q22.1 ((⟨0, 0⟩ : T_route_far) : T_route_far) rfl rfl rfl rfl key_str rfl rfl rfl rfl rfl rfl rfl) ?_
          refine go_ops hΓ 2 rfl ?_
          refine eo_build hΓ (gs := [I (wi ((((mGet s31 q22.1).getD (⟨0, 0⟩ : T_route_far)).millis) + x32.millis)), I (wi ((((mGet s31 q22.1).getD (⟨0, 0⟩ : T_route_far)).links) + 1))]) rfl rfl rfl rfl rfl rfl rfl ?_
          refine eo_alloc hΓ rfl rfl rfl (Nat.le_of_ble_eq_true rfl) ?_
          refine eo_store hΓ rfl rfl rfl rfl rfl rfl rfl rfl (Nat.le_of_ble_eq_true rfl) ?_
          refine eo_hp [mOb kS false (eT 112 2 e_route_step) steps, mOb kS true e_route_far s31, mOb kS false eB (mSet s2.2 q22.1 true), .dead, .box 112 [S x32.to, I x32.millis], .box 108 [I (wi ((((mGet s31 q22.1).getD (⟨0, 0⟩ : T_route_far)).millis) + x32.millis)), I (wi ((((mGet s31 q22.1).getD (⟨0, 0⟩ : T_route_far)).links) + 1))]] rfl ?_
          refine go_ops hΓ 7 rfl ?_
          refine eo_o rfl (op_lookupOk hΓ (kv := kS) (agg := true) (enc := e_route_far) s31 x32.to ((⟨0, 0⟩ : T_route_far) : T_route_far) rfl rfl rfl rfl key_str rfl rfl rfl rfl rfl rfl rfl) ?_
          refine go_ops hΓ 3 rfl ?_
          refine eo_alloc hΓ rfl rfl rfl (Nat.le_of_ble_eq_true rfl) ?_
          refine eo_store hΓ rfl rfl rfl rfl rfl rfl rfl rfl (Nat.le_of_ble_eq_true rfl) ?_
          refine eo_hp [mOb kS false (eT 112 2 e_route_step) steps, mOb kS true e_route_far s31, mOb kS false eB (mSet s2.2 q22.1 true), .dead, .box 112 [S x32.to, I x32.millis], .box 108 [I (wi ((((mGet s31 q22.1).getD (⟨0, 0⟩ : T_route_far)).millis) + x32.millis)), I (wi ((((mGet s31 q22.1).getD (⟨0, 0⟩ : T_route_far)).links) + 1))], .box 108 [I (((mGet s31 x32.to).getD (⟨0, 0⟩ : T_route_far)).millis), I (((mGet s31 x32.to).getD (⟨0, 0⟩ : T_route_far)).links)]] rfl ?_
          refine go_ops hΓ 8 rfl ?_
          obtain ⟨q41, hq41, h42⟩ := bi_ok hy38
          refine o_cut 4 [(0, .map 0), (5, .map 1), (6, .map 2), (7, S q22.1), (12, .ptr 4 0), (13, .ptr 5 0), (51, .d (Sl e_route_step (((mGet steps q22.1).getD (1, [])).2))), (52, I ((((mGet steps q22.1).getD (1, [])).2).length : Int)), (53, I (i30 : Int)), (83, B q41)] [mOb kS false (eT 112 2 e_route_step) steps, mOb kS true e_route_far s31, mOb kS false eB (mSet s2.2 q22.1 true), .dead, .box 112 [S x32.to, I x32.millis], .box 108 [I (wi ((((mGet s31 q22.1).getD (⟨0, 0⟩ : T_route_far)).millis) + x32.millis)), I (wi ((((mGet s31 q22.1).getD (⟨0, 0⟩ : T_route_far)).links) + 1))], .box 108 [I (((mGet s31 x32.to).getD (⟨0, 0⟩ : T_route_far)).millis), I (((mGet s31 x32.to).getD (⟨0, 0⟩ : T_route_far)).links)]] ?_ ?_
          · refine eo_gsplit rfl rfl (fun hb => ?_) (fun hb => ?_)
            · have h43 := cT hq41 hb
              refine go_ops hΓ 5 rfl ?_
              obtain rfl := Option.some.inj h43
              exact ⟨⟨rfl, rfl, rfl, rfl, rfl, rfl, rfl, rfl, rfl, rfl, trivial⟩, [], rfl, .inl rfl⟩
            · have h44 := cF hq41 hb
              obtain ⟨y45, hy45, h46⟩ := bi_ok h44
              refine go_ops hΓ 2 rfl ?_
              refine eo_guard rfl ?_
              refine eo_callP (callable Tryd.func85 rfl rfl) (c_route_far_less hy45) rfl (Nat.le_of_ble_eq_true rfl) rfl rfl rfl rfl rfl ?_
              refine go_ops hΓ 2 rfl ?_
              obtain rfl := Option.some.inj h46
              exact ⟨⟨rfl, rfl, rfl, rfl, rfl, rfl, rfl, rfl, rfl, rfl, trivial⟩, [], rfl, .inl rfl⟩
          · refine go_ops hΓ 2 rfl ?_
            refine j_cond rfl (fun hb => ?_) (fun hb => ?_)
            · have h47 := cT h42 hb
              refine go hΓ 5 rfl ?_
              refine eo_u (Nat.le_of_ble_eq_true rfl) (opu_mapUpdate hΓ (kv := kS) (agg := true) (enc := e_route_far) (id := 1) s31 x32.to (⟨wi ((((mGet s31 q22.1).getD (⟨0, 0⟩ : T_route_far)).millis) + x32.millis), wi ((((mGet s31 q22.1).getD (⟨0, 0⟩ : T_route_far)).links) + 1)⟩ : T_route_far) rfl rfl rfl key_str rfl rfl rfl rfl rfl) ?_
              refine eo_hp [mOb kS false (eT 112 2 e_route_step) steps, mOb kS true e_route_far (mSet s31 x32.to (⟨wi ((((mGet s31 q22.1).getD (⟨0, 0⟩ : T_route_far)).millis) + x32.millis), wi ((((mGet s31 q22.1).getD (⟨0, 0⟩ : T_route_far)).links) + 1)⟩ : T_route_far)), mOb kS false eB (mSet s2.2 q22.1 true), .dead, .box 112 [S x32.to, I x32.millis], .box 108 [I (wi ((((mGet s31 q22.1).getD (⟨0, 0⟩ : T_route_far)).millis) + x32.millis)), I (wi ((((mGet s31 q22.1).getD (⟨0, 0⟩ : T_route_far)).links) + 1))], .box 108 [I (((mGet s31 x32.to).getD (⟨0, 0⟩ : T_route_far)).millis), I (((mGet s31 x32.to).getD (⟨0, 0⟩ : T_route_far)).links)]] rfl ?_
              refine go_ops hΓ 7 rfl ?_
              obtain rfl := Option.some.inj h47
              exact ⟨⟨rfl, rfl, rfl, rfl, rfl, rfl, get_eq rfl (w64_succ (Nat.lt_of_lt_of_le hlt hb36)), trivial⟩, [_, _, _], rfl, .inr ⟨HB.mk rfl, FB.mk rfl, (Nat.le_of_ble_eq_true rfl)⟩⟩
            · have h48 := cF h42 hb
              refine go hΓ 7 rfl ?_
              obtain rfl := Option.some.inj h48
              exact ⟨⟨rfl, rfl, rfl, rfl, rfl, rfl, get_eq rfl (w64_succ (Nat.lt_of_lt_of_le hlt hb36)), trivial⟩, [_, _, _], rfl, .inr ⟨HB.mk rfl, FB.mk rfl, (Nat.le_of_ble_eq_true rfl)⟩⟩
        · refine go hΓ 6 rfl ?_
          refine j_condF rfl (decide_eq_false (Int.lt_irrefl _)) ?_
          refine go hΓ 4 rfl ?_
          exact ⟨⟨rfl, rfl, rfl, trivial⟩, [], rfl, .inl rfl⟩
      · refine go hΓ 1 rfl ?_
        obtain rfl := Option.some.inj h34
        exact ⟨_, rfl, ⟨⟨rfl, rfl, rfl, trivial⟩, [_], rfl, .inr ⟨HB.mk rfl, FB.mk rfl, (Nat.le_of_ble_eq_true rfl)⟩⟩⟩
  · obtain ⟨s49, h50⟩ := hstep25 j20 x18 b21 hjsn19 hbsn19 hnsn19
    have hssn19 := h50
    refine go_ops hΓ 10 rfl ?_
    refine eo_o rfl (op_entry (kv := kS) (agg := true) (enc := e_route_far) s2.1 mr11 bs12 cl13 sn19 hjsn19 hbsn19 rfl rfl rfl rfl (fun _ => rfl)) ?_
    refine go_ops hΓ 2 rfl ?_
    refine eo_alloc hΓ rfl rfl rfl (Nat.le_of_ble_eq_true rfl) ?_
    refine go_ops hΓ 1 rfl ?_
    refine eo_store hΓ rfl rfl rfl rfl rfl rfl rfl rfl (Nat.le_of_ble_eq_true rfl) ?_
    refine eo_hp [mOb kS false (eT 112 2 e_route_step) steps, mObS kS true e_route_far s2.1 (rawM kS e_route_far mr11 bs12 cl13), mOb kS false eB s2.2, .iter 1 cl13 (sn19 ++ [b21]), .box 108 [I x18.2.millis, I x18.2.links]] rfl ?_
    refine go_ops hΓ 6 rfl ?_
    refine eo_o rfl (op_lookup hΓ (kv := kS) (agg := false) (enc := eB) s2.2 x18.1 (false : Bool) rfl rfl rfl rfl key_str rfl rfl rfl rfl rfl rfl rfl) ?_
    refine go_ops hΓ 2 rfl ?_
    obtain ⟨q51, hq51, h52⟩ := bi_ok h50
    refine o_cut 10 [(0, .map 0), (5, .map 1), (6, .map 2), (7, S s17.1), (8, B s17.2), (9, S x18.1), (22, .ptr 3 0), (42, B q51)] [mOb kS false (eT 112 2 e_route_step) steps, mObS kS true e_route_far s2.1 (rawM kS e_route_far mr11 bs12 cl13), mOb kS false eB s2.2, .iter 1 cl13 (sn19 ++ [b21]), .box 108 [I x18.2.millis, I x18.2.links]] ?_ ?_
    · refine eo_gsplit rfl rfl (fun hb => ?_) (fun hb => ?_)
      · have h53 := cT hq51 hb
        refine go_ops hΓ 3 rfl ?_
        obtain ⟨q54, hq54, h55⟩ := bi_ok h53
        refine o_cut 6 [(0, .map 0), (5, .map 1), (6, .map 2), (7, S s17.1), (8, B s17.2), (9, S x18.1), (22, .ptr 3 0), (32, B true), (41, B q54)] [mOb kS false (eT 112 2 e_route_step) steps, mObS kS true e_route_far s2.1 (rawM kS e_route_far mr11 bs12 cl13), mOb kS false eB s2.2, .iter 1 cl13 (sn19 ++ [b21]), .box 108 [I x18.2.millis, I x18.2.links]] ?_ ?_
        · refine eo_gsplit rfl rfl (fun hb => ?_) (fun hb => ?_)
          · have h56 := cT hq54 hb
            refine go_ops hΓ 7 rfl ?_
            obtain rfl := Option.some.inj h56
            exact ⟨⟨rfl, rfl, rfl, rfl, rfl, rfl, rfl, rfl, rfl, trivial⟩, [], rfl, .inl rfl⟩
          · have h57 := cF hq54 hb
            refine go_ops hΓ 3 rfl ?_
            refine eo_guard rfl ?_
            refine eo_o rfl (op_lookup hΓ (kv := kS) (agg := true) (enc := e_route_far) s2.1 s17.1 ((⟨0, 0⟩ : T_route_far) : T_route_far) rfl rfl rfl rfl key_str rfl rfl rfl rfl rfl rfl rfl) ?_
            obtain ⟨y58, hy58, h59⟩ := bi_ok h57
            refine eo_guard rfl ?_
            refine eo_callP (callable Tryd.func85 rfl rfl) (c_route_far_less hy58) rfl (Nat.le_of_ble_eq_true rfl) rfl rfl rfl rfl rfl ?_
            refine go_ops hΓ 2 rfl ?_
            obtain rfl := Option.some.inj h59
            exact ⟨⟨rfl, rfl, rfl, rfl, rfl, rfl, rfl, rfl, rfl, trivial⟩, [], rfl, .inl rfl⟩
        · refine go_ops hΓ 2 rfl ?_
          obtain rfl := Option.some.inj h55
          exact ⟨⟨rfl, rfl, rfl, rfl, rfl, rfl, rfl, rfl, trivial⟩, [], rfl, .inl rfl⟩
      · have h60 := cF hq51 hb
        refine go_ops hΓ 11 rfl ?_
        obtain rfl := Option.some.inj h60
        exact ⟨⟨rfl, rfl, rfl, rfl, rfl, rfl, rfl, rfl, trivial⟩, [], rfl, .inl rfl⟩
    · refine go_ops hΓ 2 rfl ?_
      refine j_cond rfl (fun hb => ?_) (fun hb => ?_)
      · have h61 := cT h52 hb
        refine go hΓ 6 rfl ?_
        obtain rfl := Option.some.inj h61
        exact ⟨j20, x18, b21, _, hjsn19, hbsn19, hnsn19, hssn19, ⟨⟨rfl, rfl, rfl, rfl, rfl, rfl, trivial⟩, [_], rfl, .inr ⟨HB.mk rfl, FB.mk rfl, (Nat.le_of_ble_eq_true rfl)⟩⟩⟩
      · have h62 := cF h52 hb
        refine go hΓ 2 rfl ?_
        obtain rfl := Option.some.inj h62
        exact ⟨j20, x18, b21, _, hjsn19, hbsn19, hnsn19, hssn19, ⟨⟨rfl, rfl, rfl, rfl, rfl, rfl, trivial⟩, [_], rfl, .inr ⟨HB.mk rfl, FB.mk rfl, (Nat.le_of_ble_eq_true rfl)⟩⟩⟩
set_option maxHeartbeats 8000000 in
theorem c_route_through {k : Nat} {l : List T_api_Link} {a : Str} {b : Str} {al : BagT} {r : (List Str) × Int × Int × BagT} (h : m_route_through k l a b al = some r) : EC Tryd.prog 56 [.d (Sl e_api_Link l), S a, S b] [.bag al.1 (arX al.2) []] fun g hp' => g = .tup [.d (Sl eS r.1), I r.2.1, I r.2.2.1] ∧ hp' = [.bag r.2.2.2.1 (arX r.2.2.2.2) []] := by
  refine ec_enter (Fr.of 0 _) Tryd.func56 rfl (Fr.of_ok _) (Nat.le_of_ble_eq_true rfl) fun _ => ?_
  refine go_in ?_
  unfold m_route_through at h
  obtain ⟨y1, hy1, h2⟩ := bi_ok h
  refine go hΓ 10 rfl ?_
  refine eo_callF [0] (.map 1) [.bag y1.2.1 (arX y1.2.2) [], mOb kS false (eT 112 2 e_route_step) y1.1] (callable Tryd.func76 rfl rfl) (c_route_stepsOf hy1) rfl (Nat.le_of_ble_eq_true rfl) rfl rfl rfl rfl rfl rfl rfl rfl rfl rfl ?_
  obtain ⟨y3, hy3, h4⟩ := bi_ok h2
  refine go_ops hΓ 7 rfl ?_
  refine eo_callF [1] (.map 2) [.bag y1.2.1 (arX y1.2.2) [], mOb kS false (eT 112 2 e_route_step) y1.1, mOb kS true e_route_far y3] (callable Tryd.func77 rfl rfl) (c_route_distances hy3) rfl (Nat.le_of_ble_eq_true rfl) rfl rfl rfl rfl rfl rfl rfl rfl rfl rfl ?_
  refine go_ops hΓ 8 rfl ?_
  refine eo_o rfl (op_lookupOk hΓ (kv := kS) (agg := true) (enc := e_route_far) y3 a ((⟨0, 0⟩ : T_route_far) : T_route_far) rfl rfl rfl rfl key_str rfl rfl rfl rfl rfl rfl rfl) ?_
  refine go_ops hΓ 3 rfl ?_
  refine eo_alloc hΓ rfl rfl rfl (Nat.le_of_ble_eq_true rfl) ?_
  refine eo_store hΓ rfl rfl rfl rfl rfl rfl rfl rfl (Nat.le_of_ble_eq_true rfl) ?_
  refine eo_hp [.bag y1.2.1 (arX y1.2.2) [], mOb kS false (eT 112 2 e_route_step) y1.1, mOb kS true e_route_far y3, .box 108 [I (((mGet y3 a).getD (⟨0, 0⟩ : T_route_far)).millis), I (((mGet y3 a).getD (⟨0, 0⟩ : T_route_far)).links)]] rfl ?_
  refine go_ops hΓ 9 rfl ?_
  refine j_cond rfl (fun hb => ?_) (fun hb => ?_)
  · have h5 := cT h4 hb
    refine go hΓ 9 rfl ?_
    obtain rfl := Option.some.inj h5
    exact fin_objs hΓ [_, _, _] (.inr rfl) rfl rfl rfl rfl (.inr ⟨HB.mk rfl, rfl⟩)
  · have h6 := cF h4 hb
    refine go hΓ 5 rfl ?_
    refine eo_litRowT hΓ (enc := eS) [a] rfl rfl rfl rfl rfl rfl rfl rfl rfl rfl rfl rfl (Nat.le_of_ble_eq_true rfl) ?_
    refine go_ops hΓ 10 rfl ?_
    obtain ⟨q10, hq10, h11⟩ := bi_ok h6
    refine j_cutNZ [(1, S a), (10, .map 2), (13, .sl 4 q10.length)] [.bag y1.2.1 (arX y1.2.2) [], mOb kS false (eT 112 2 e_route_step) y1.1, mOb kS true e_route_far y3, .box 108 [I (((mGet y3 a).getD (⟨0, 0⟩ : T_route_far)).millis), I (((mGet y3 a).getD (⟨0, 0⟩ : T_route_far)).links)], .row 9 1 q10.length (q10.flatMap eS)] ?_ ?_
    · refine go hΓ 1 rfl ?_
      refine j_loop hq10 (fun s8 => [(1, S a), (2, S b), (9, .map 1), (10, .map 2), (13, .sl 4 s8.1.length), (14, S s8.2)]) (fun s8 => [.bag y1.2.1 (arX y1.2.2) [], mOb kS false (eT 112 2 e_route_step) y1.1, mOb kS true e_route_far y3, .box 108 [I (((mGet y3 a).getD (⟨0, 0⟩ : T_route_far)).millis), I (((mGet y3 a).getD (⟨0, 0⟩ : T_route_far)).links)], .row 9 1 s8.1.length (s8.1.flatMap eS)]) ⟨⟨rfl, rfl, rfl, rfl, rfl, rfl, trivial⟩, [], rfl, .inl rfl⟩ (fun s8 y16 hy14 hout15 => ?_)
      refine go hΓ 8 rfl ?_
      refine j_cond rfl (fun hb => ?_) (fun hb => ?_)
      · have h17 := cT hy14 hb
        refine go hΓ 13 rfl ?_
        refine eo_o rfl (op_le (op_lookupT hΓ (kv := kS) (te := 112) (sz := 2) (enc := e_route_step) y1.1 s8.2 rfl rfl rfl rfl key_str rfl rfl rfl rfl rfl) G.Le.unt) ?_
        refine go_ops hΓ 4 rfl ?_
        obtain ⟨q21, hq21, h22⟩ := bi_ok h17
        refine j_bound 41 rfl fun hb24 => ?_
        refine j_cutNZ [(1, S a), (2, S b), (9, .map 1), (10, .map 2), (13, .sl 4 s8.1.length), (15, S q21)] [.bag y1.2.1 (arX y1.2.2) [], mOb kS false (eT 112 2 e_route_step) y1.1, mOb kS true e_route_far y3, .box 108 [I (((mGet y3 a).getD (⟨0, 0⟩ : T_route_far)).millis), I (((mGet y3 a).getD (⟨0, 0⟩ : T_route_far)).links)], .row 9 1 s8.1.length (s8.1.flatMap eS)] ?_ ?_
        · refine go hΓ 1 rfl ?_
          refine j_rangeF (((mGet y1.1 s8.2).getD (1, [])).2) hq21 (fun i18 s19 => [(1, S a), (2, S b), (9, .map 1), (10, .map 2), (13, .sl 4 s8.1.length), (14, S s8.2), (15, S s19), (41, .d (Sl e_route_step (((mGet y1.1 s8.2).getD (1, [])).2))), (42, I ((((mGet y1.1 s8.2).getD (1, [])).2).length : Int)), (43, I (i18 : Int))]) (fun s19 => [.bag y1.2.1 (arX y1.2.2) [], mOb kS false (eT 112 2 e_route_step) y1.1, mOb kS true e_route_far y3, .box 108 [I (((mGet y3 a).getD (⟨0, 0⟩ : T_route_far)).millis), I (((mGet y3 a).getD (⟨0, 0⟩ : T_route_far)).links)], .row 9 1 s8.1.length (s8.1.flatMap eS)]) ⟨⟨rfl, rfl, rfl, rfl, rfl, rfl, rfl, rfl, rfl, rfl, trivial⟩, [], rfl, .inl rfl⟩ (fun i18 x20 s19 y28 hx25 hlt hy26 => ?_) (?_)
          · refine go hΓ 6 rfl ?_
            refine j_condT rfl (decide_eq_true (Int.ofNat_lt.2 hlt)) ?_
            refine go hΓ 6 rfl ?_
            refine eo_o rfl (op_elemZ hΓ (enc := e_route_step) (getZ_nat hx25) rfl rfl rfl rfl rfl (fun _ => rfl)) ?_
            refine go_ops hΓ 1 rfl ?_
            refine eo_alloc hΓ rfl rfl rfl (Nat.le_of_ble_eq_true rfl) ?_
            refine eo_store hΓ rfl rfl rfl rfl rfl rfl rfl rfl (Nat.le_of_ble_eq_true rfl) ?_
            refine eo_hp [.bag y1.2.1 (arX y1.2.2) [], mOb kS false (eT 112 2 e_route_step) y1.1, mOb kS true e_route_far y3, .box 108 [I (((mGet y3 a).getD (⟨0, 0⟩ : T_route_far)).millis), I (((mGet y3 a).getD (⟨0, 0⟩ : T_route_far)).links)], .row 9 1 s8.1.length (s8.1.flatMap eS), .box 112 [S x20.to, I x20.millis]] rfl ?_
            refine go_ops hΓ 7 rfl ?_
            refine eo_o rfl (op_lookupOk hΓ (kv := kS) (agg := true) (enc := e_route_far) y3 x20.to ((⟨0, 0⟩ : T_route_far) : T_route_far) rfl rfl rfl rfl key_str rfl rfl rfl rfl rfl rfl rfl) ?_
            refine go_ops hΓ 3 rfl ?_
            refine eo_alloc hΓ rfl rfl rfl (Nat.le_of_ble_eq_true rfl) ?_
            refine eo_store hΓ rfl rfl rfl rfl rfl rfl rfl rfl (Nat.le_of_ble_eq_true rfl) ?_
            refine eo_hp [.bag y1.2.1 (arX y1.2.2) [], mOb kS false (eT 112 2 e_route_step) y1.1, mOb kS true e_route_far y3, .box 108 [I (((mGet y3 a).getD (⟨0, 0⟩ : T_route_far)).millis), I (((mGet y3 a).getD (⟨0, 0⟩ : T_route_far)).links)], .row 9 1 s8.1.length (s8.1.flatMap eS), .box 112 [S x20.to, I x20.millis], .box 108 [I (((mGet y3 x20.to).getD (⟨0, 0⟩ : T_route_far)).millis), I (((mGet y3 x20.to).getD (⟨0, 0⟩ : T_route_far)).links)]] rfl ?_
            refine go_ops hΓ 7 rfl ?_
            refine o_cut 11 [(1, S a), (2, S b), (9, .map 1), (10, .map 2), (13, .sl 4 s8.1.length), (14, S s8.2), (15, S s19), (17, .ptr 5 0), (18, .ptr 6 0), (41, .d (Sl e_route_step (((mGet y1.1 s8.2).getD (1, [])).2))), (42, I ((((mGet y1.1 s8.2).getD (1, [])).2).length : Int)), (43, I (i18 : Int)), (66, B (((mGet y3 x20.to).isSome) && ((wi ((((mGet y3 x20.to).getD (⟨0, 0⟩ : T_route_far)).millis) + x20.millis) : Int) == (((mGet y3 s8.2).getD (⟨0, 0⟩ : T_route_far)).millis))))] [.bag y1.2.1 (arX y1.2.2) [], mOb kS false (eT 112 2 e_route_step) y1.1, mOb kS true e_route_far y3, .box 108 [I (((mGet y3 a).getD (⟨0, 0⟩ : T_route_far)).millis), I (((mGet y3 a).getD (⟨0, 0⟩ : T_route_far)).links)], .row 9 1 s8.1.length (s8.1.flatMap eS), .box 112 [S x20.to, I x20.millis], .box 108 [I (((mGet y3 x20.to).getD (⟨0, 0⟩ : T_route_far)).millis), I (((mGet y3 x20.to).getD (⟨0, 0⟩ : T_route_far)).links)]] ?_ ?_
            · refine eo_gsplit rfl rfl (fun hb => ?_) (fun hb => ?_)
              · refine go_ops hΓ 7 rfl ?_
                refine eo_guard rfl ?_
                refine eo_o rfl (op_lookup hΓ (kv := kS) (agg := true) (enc := e_route_far) y3 s8.2 ((⟨0, 0⟩ : T_route_far) : T_route_far) rfl rfl rfl rfl key_str rfl rfl rfl rfl rfl rfl rfl) ?_
                refine go_ops hΓ 4 rfl ?_
                exact ⟨⟨rfl, rfl, rfl, rfl, rfl, rfl, rfl, rfl, rfl, rfl, rfl, rfl, get_b rfl (and_t hb), trivial⟩, [], rfl, .inl rfl⟩
              · refine go_ops hΓ 12 rfl ?_
                exact ⟨⟨rfl, rfl, rfl, rfl, rfl, rfl, rfl, rfl, rfl, rfl, rfl, rfl, get_b rfl (and_f hb), trivial⟩, [], rfl, .inl rfl⟩
            · refine go_ops hΓ 1 rfl ?_
              refine o_cut 9 [(1, S a), (2, S b), (9, .map 1), (10, .map 2), (13, .sl 4 s8.1.length), (14, S s8.2), (15, S s19), (17, .ptr 5 0), (41, .d (Sl e_route_step (((mGet y1.1 s8.2).getD (1, [])).2))), (42, I ((((mGet y1.1 s8.2).getD (1, [])).2).length : Int)), (43, I (i18 : Int)), (76, B ((((mGet y3 x20.to).isSome) && ((wi ((((mGet y3 x20.to).getD (⟨0, 0⟩ : T_route_far)).millis) + x20.millis) : Int) == (((mGet y3 s8.2).getD (⟨0, 0⟩ : T_route_far)).millis))) && ((wi ((((mGet y3 x20.to).getD (⟨0, 0⟩ : T_route_far)).links) + 1) : Int) == (((mGet y3 s8.2).getD (⟨0, 0⟩ : T_route_far)).links))))] [.bag y1.2.1 (arX y1.2.2) [], mOb kS false (eT 112 2 e_route_step) y1.1, mOb kS true e_route_far y3, .box 108 [I (((mGet y3 a).getD (⟨0, 0⟩ : T_route_far)).millis), I (((mGet y3 a).getD (⟨0, 0⟩ : T_route_far)).links)], .row 9 1 s8.1.length (s8.1.flatMap eS), .box 112 [S x20.to, I x20.millis], .box 108 [I (((mGet y3 x20.to).getD (⟨0, 0⟩ : T_route_far)).millis), I (((mGet y3 x20.to).getD (⟨0, 0⟩ : T_route_far)).links)]] ?_ ?_
              · refine eo_gsplit rfl rfl (fun hb => ?_) (fun hb => ?_)
                · refine go_ops hΓ 5 rfl ?_
                  refine eo_guard rfl ?_
                  refine eo_o rfl (op_lookup hΓ (kv := kS) (agg := true) (enc := e_route_far) y3 s8.2 ((⟨0, 0⟩ : T_route_far) : T_route_far) rfl rfl rfl rfl key_str rfl rfl rfl rfl rfl rfl rfl) ?_
                  refine go_ops hΓ 4 rfl ?_
                  exact ⟨⟨rfl, rfl, rfl, rfl, rfl, rfl, rfl, rfl, rfl, rfl, rfl, get_b rfl (and_t hb), trivial⟩, [], rfl, .inl rfl⟩
                · refine go_ops hΓ 10 rfl ?_
                  exact ⟨⟨rfl, rfl, rfl, rfl, rfl, rfl, rfl, rfl, rfl, rfl, rfl, get_b rfl (and_f hb), trivial⟩, [], rfl, .inl rfl⟩
              · refine go_ops hΓ 1 rfl ?_
                refine o_cut 9 [(1, S a), (2, S b), (9, .map 1), (10, .map 2), (13, .sl 4 s8.1.length), (14, S s8.2), (15, S s19), (17, .ptr 5 0), (41, .d (Sl e_route_step (((mGet y1.1 s8.2).getD (1, [])).2))), (42, I ((((mGet y1.1 s8.2).getD (1, [])).2).length : Int)), (43, I (i18 : Int)), (86, B (((((mGet y3 x20.to).isSome) && ((wi ((((mGet y3 x20.to).getD (⟨0, 0⟩ : T_route_far)).millis) + x20.millis) : Int) == (((mGet y3 s8.2).getD (⟨0, 0⟩ : T_route_far)).millis))) && ((wi ((((mGet y3 x20.to).getD (⟨0, 0⟩ : T_route_far)).links) + 1) : Int) == (((mGet y3 s8.2).getD (⟨0, 0⟩ : T_route_far)).links))) && (((s19 : Str) == []) || (Op.bytesLess x20.to s19))))] [.bag y1.2.1 (arX y1.2.2) [], mOb kS false (eT 112 2 e_route_step) y1.1, mOb kS true e_route_far y3, .box 108 [I (((mGet y3 a).getD (⟨0, 0⟩ : T_route_far)).millis), I (((mGet y3 a).getD (⟨0, 0⟩ : T_route_far)).links)], .row 9 1 s8.1.length (s8.1.flatMap eS), .box 112 [S x20.to, I x20.millis], .box 108 [I (((mGet y3 x20.to).getD (⟨0, 0⟩ : T_route_far)).millis), I (((mGet y3 x20.to).getD (⟨0, 0⟩ : T_route_far)).links)]] ?_ ?_
                · refine eo_gsplit rfl rfl (fun hb => ?_) (fun hb => ?_)
                  · refine go_ops hΓ 3 rfl ?_
                    refine o_cut 5 [(1, S a), (2, S b), (9, .map 1), (10, .map 2), (13, .sl 4 s8.1.length), (14, S s8.2), (15, S s19), (17, .ptr 5 0), (41, .d (Sl e_route_step (((mGet y1.1 s8.2).getD (1, [])).2))), (42, I ((((mGet y1.1 s8.2).getD (1, [])).2).length : Int)), (43, I (i18 : Int)), (77, B true), (85, B (((s19 : Str) == []) || (Op.bytesLess x20.to s19)))] [.bag y1.2.1 (arX y1.2.2) [], mOb kS false (eT 112 2 e_route_step) y1.1, mOb kS true e_route_far y3, .box 108 [I (((mGet y3 a).getD (⟨0, 0⟩ : T_route_far)).millis), I (((mGet y3 a).getD (⟨0, 0⟩ : T_route_far)).links)], .row 9 1 s8.1.length (s8.1.flatMap eS), .box 112 [S x20.to, I x20.millis], .box 108 [I (((mGet y3 x20.to).getD (⟨0, 0⟩ : T_route_far)).millis), I (((mGet y3 x20.to).getD (⟨0, 0⟩ : T_route_far)).links)]] ?_ ?_
                    · refine eo_gsplit rfl rfl (fun hb => ?_) (fun hb => ?_)
                      · refine go_ops hΓ 6 rfl ?_
                        exact ⟨⟨rfl, rfl, rfl, rfl, rfl, rfl, rfl, rfl, rfl, rfl, rfl, rfl, get_b rfl (or_t hb), trivial⟩, [], rfl, .inl rfl⟩
                      · refine go_ops hΓ 6 rfl ?_
                        exact ⟨⟨rfl, rfl, rfl, rfl, rfl, rfl, rfl, rfl, rfl, rfl, rfl, rfl, get_b rfl (or_f hb), trivial⟩, [], rfl, .inl rfl⟩
                    · refine go_ops hΓ 2 rfl ?_
                      exact ⟨⟨rfl, rfl, rfl, rfl, rfl, rfl, rfl, rfl, rfl, rfl, rfl, get_b rfl (and_t hb), trivial⟩, [], rfl, .inl rfl⟩
                  · refine go_ops hΓ 10 rfl ?_
                    exact ⟨⟨rfl, rfl, rfl, rfl, rfl, rfl, rfl, rfl, rfl, rfl, rfl, get_b rfl (and_f hb), trivial⟩, [], rfl, .inl rfl⟩
                · refine go_ops hΓ 2 rfl ?_
                  refine j_cond rfl (fun hb => ?_) (fun hb => ?_)
                  · have h29 := cT hy26 hb
                    refine go hΓ 11 rfl ?_
                    obtain rfl := Option.some.inj h29
                    exact ⟨⟨rfl, rfl, rfl, rfl, rfl, rfl, rfl, rfl, rfl, get_eq rfl (w64_succ (Nat.lt_of_lt_of_le hlt hb24)), trivial⟩, [_, _], rfl, .inr ⟨HB.mk rfl, FB.mk rfl, (Nat.le_of_ble_eq_true rfl)⟩⟩
                  · have h30 := cF hy26 hb
                    refine go hΓ 7 rfl ?_
                    obtain rfl := Option.some.inj h30
                    exact ⟨⟨rfl, rfl, rfl, rfl, rfl, rfl, rfl, rfl, rfl, get_eq rfl (w64_succ (Nat.lt_of_lt_of_le hlt hb24)), trivial⟩, [_, _], rfl, .inr ⟨HB.mk rfl, FB.mk rfl, (Nat.le_of_ble_eq_true rfl)⟩⟩
          · refine go hΓ 6 rfl ?_
            refine j_condF rfl (decide_eq_false (Int.lt_irrefl _)) ?_
            refine go hΓ 4 rfl ?_
            exact ⟨⟨rfl, rfl, rfl, rfl, rfl, rfl, trivial⟩, [], rfl, .inl rfl⟩
        · refine go hΓ 10 rfl ?_
          refine eo_litT hΓ (enc := eS) [q21] rfl rfl rfl rfl rfl rfl rfl rfl rfl rfl rfl rfl (Nat.le_of_ble_eq_true rfl) ?_
          obtain ⟨y31, hy31, h32⟩ := bi_ok h22
          refine eo_appendT hΓ (enc := eS) hy31 rfl rfl rfl rfl rfl rfl rfl rfl rfl (fun _ => rfl) rfl rfl rfl rfl ?_
          refine go_ops hΓ 3 rfl ?_
          obtain rfl := Option.some.inj h32
          exact ⟨_, rfl, ⟨⟨rfl, rfl, rfl, rfl, rfl, rfl, trivial⟩, [], rfl, .inl rfl⟩⟩
      · have h33 := cF hy14 hb
        refine go hΓ 4 rfl ?_
        obtain rfl := Option.some.inj h33
        obtain rfl := hout15 _ rfl
        exact ⟨⟨rfl, rfl, rfl, trivial⟩, [], rfl, .inl rfl⟩
    · refine go hΓ 2 rfl ?_
      refine j_draw hmix (by kernel_rfl) ?_
      refine go hΓ 3 rfl ?_
      refine gl_o rfl (op_lookup hΓ (kv := kS) (agg := true) (enc := e_route_far) y3 a ((⟨0, 0⟩ : T_route_far) : T_route_far) rfl rfl rfl rfl key_str rfl rfl rfl rfl rfl rfl rfl) ?_
      refine go_draw hΓ 6 rfl ?_
      refine j_shr 4 [6, 13, 95] _ [.bag y1.2.1 (arX y1.2.2) [], mOb kS false (eT 112 2 e_route_step) y1.1, mOb kS true e_route_far y3, .box 108 [I (((mGet y3 a).getD (⟨0, 0⟩ : T_route_far)).millis), I (((mGet y3 a).getD (⟨0, 0⟩ : T_route_far)).links)], .dead] rfl rfl rfl (Nat.le_of_ble_eq_true rfl) ?_
      refine go hΓ 1 rfl ?_
      obtain rfl := Option.some.inj h11
      exact fin_objs hΓ [_, _, _, _] (.inr rfl) rfl rfl rfl rfl (.inr ⟨HB.mk rfl, rfl⟩)
theorem c_route_Through {k : Nat} {l : List T_api_Link} {a : Str} {b : Str} {al : BagT} {r : (List Str) × Int × Int × BagT} (h : m_route_Through k l a b al = some r) : EC Tryd.prog 24 [.d (Sl e_api_Link l), S a, S b] [.bag al.1 (arX al.2) []] fun g hp' => g = .tup [.d (Sl eS r.1), I r.2.1, I r.2.2.1] ∧ hp' = [.bag r.2.2.2.1 (arX r.2.2.2.2) []] := by
  refine ec_enter (Fr.of 0 _) Tryd.func24 rfl (Fr.of_ok _) (Nat.le_of_ble_eq_true rfl) fun _ => ?_
  refine go_in ?_
  unfold m_route_Through at h
  obtain ⟨y1, hy1, h2⟩ := bi_ok h
  refine go hΓ 11 rfl ?_
  refine eo_callP (callable Tryd.func26 rfl rfl) (c_route_CheckLinks hy1) rfl (Nat.le_of_ble_eq_true rfl) rfl rfl rfl rfl rfl ?_
  refine go_ops hΓ 9 rfl ?_
  refine j_cond rfl (fun hb => ?_) (fun hb => ?_)
  · have h3 := cT h2 hb
    refine go hΓ 10 rfl ?_
    obtain rfl := Option.some.inj h3
    exact fin_objs hΓ [] (.inr rfl) rfl rfl rfl rfl (.inl rfl)
  · have h4 := cF h2 hb
    obtain ⟨y5, hy5, h6⟩ := bi_ok h4
    refine go hΓ 6 rfl ?_
    refine eo_callP (callable Tryd.func51 rfl rfl) (c_kit_IsKey hy5) rfl (Nat.le_of_ble_eq_true rfl) rfl rfl rfl rfl rfl ?_
    refine go_ops hΓ 2 rfl ?_
    obtain ⟨q7, hq7, h8⟩ := bi_ok h6
    refine o_cut 4 [(0, .d (Sl e_api_Link l)), (1, S a), (2, S b), (22, B q7)] [.bag al.1 (arX al.2) []] ?_ ?_
    · refine eo_gsplit rfl rfl (fun hb => ?_) (fun hb => ?_)
      · have h9 := cT hq7 hb
        refine go_ops hΓ 5 rfl ?_
        obtain rfl := Option.some.inj h9
        exact ⟨⟨rfl, rfl, rfl, rfl, trivial⟩, [], rfl, .inl rfl⟩
      · have h10 := cF hq7 hb
        obtain ⟨y11, hy11, h12⟩ := bi_ok h10
        refine go_ops hΓ 1 rfl ?_
        refine eo_guard rfl ?_
        refine eo_callP (callable Tryd.func51 rfl rfl) (c_kit_IsKey hy11) rfl (Nat.le_of_ble_eq_true rfl) rfl rfl rfl rfl rfl ?_
        refine go_ops hΓ 3 rfl ?_
        obtain rfl := Option.some.inj h12
        exact ⟨⟨rfl, rfl, rfl, rfl, trivial⟩, [], rfl, .inl rfl⟩
    · refine go_ops hΓ 2 rfl ?_
      refine j_cond rfl (fun hb => ?_) (fun hb => ?_)
      · have h13 := cT h8 hb
        refine go hΓ 9 rfl ?_
        obtain rfl := Option.some.inj h13
        exact fin_objs hΓ [] (.inr rfl) rfl rfl rfl rfl (.inl rfl)
      · have h14 := cF h8 hb
        obtain ⟨y15, hy15, h16⟩ := bi_ok h14
        refine go hΓ 7 rfl ?_
        refine eo_callF [0] (.tup [.d (Sl eS y15.1), I y15.2.1, I y15.2.2.1]) [.bag y15.2.2.2.1 (arX y15.2.2.2.2) []] (callable Tryd.func56 rfl rfl) (c_route_through hy15) rfl (Nat.le_of_ble_eq_true rfl) rfl rfl rfl rfl rfl rfl rfl rfl rfl rfl ?_
        refine go_ops hΓ 9 rfl ?_
        obtain rfl := Option.some.inj h16
        exact fin_objs hΓ [] (.inr rfl) rfl rfl rfl rfl (.inl rfl)
theorem c_slices_Equal_string_string {s1 : List Str} {s2 : List Str} {r : Bool} (h : m_slices_Equal_string_string s1 s2 = some r) : Pure Tryd.prog 28 [.d (Sl eS s1), .d (Sl eS s2)] (B r) := by
  refine Pure.enter (Fr.of 0 _) Tryd.func28 rfl (Fr.of_ok _) rfl rfl ?_
  refine go_in ?_
  unfold m_slices_Equal_string_string at h
  refine go hΓ 15 rfl ?_
  refine j_cond rfl (fun hb => ?_) (fun hb => ?_)
  · have h1 := cT h hb
    refine go hΓ 7 rfl ?_
    obtain rfl := Option.some.inj h1
    exact fin_pure hΓ (.inr rfl) rfl rfl
  · have h2 := cF h hb
    refine go hΓ 10 rfl ?_
    obtain ⟨q6, hq6, h7⟩ := bi_ok h2
    refine j_bound 0 rfl fun hb9 => ?_
    refine j_cutEZ (R := fun a8 => q6 = .go a8) (fun a8 => []) (fun a8 => []) ?_ ?_
    · refine go hΓ 1 rfl ?_
      refine j_range s1 hq6 (fun i3 s4 => [(0, .d (Sl eS s1)), (1, .d (Sl eS s2)), (12, I (s1.length : Int)), (13, I (i3 : Int))]) (fun s4 => []) ⟨⟨rfl, rfl, rfl, rfl, trivial⟩, [], rfl, .inl rfl⟩ (fun i3 x5 s4 y13 hx10 hlt hy11 hout12 => ?_) (fun s4 hgo => ?_)
      · refine go hΓ 6 rfl ?_
        refine j_condT rfl (decide_eq_true (Int.ofNat_lt.2 hlt)) ?_
        refine go hΓ 11 rfl ?_
        refine j_draw hmix (by kernel_rfl) ?_
        refine go hΓ 2 rfl ?_
        refine gl_o rfl (op_elemZ hΓ (enc := eS) (getZ_nat hx10) rfl rfl rfl rfl rfl (fun _ => rfl)) ?_
        obtain ⟨x14, hx14, h15⟩ := bi_ok hy11
        refine go_draw hΓ 3 rfl ?_
        refine gl_o rfl (op_elemZ hΓ (enc := eS) hx14 rfl rfl rfl rfl rfl (fun _ => rfl)) ?_
        refine go_draw hΓ 4 rfl ?_
        refine j_cond rfl (fun hb => ?_) (fun hb => ?_)
        · have h16 := cT h15 hb
          refine go hΓ 8 rfl ?_
          obtain ⟨v17, hv17, h18⟩ := bi_ok h16
          obtain rfl := Option.some.inj h18
          obtain rfl := hout12 _ rfl
          obtain rfl := Option.some.inj h7
          refine go hΓ 4 rfl ?_
          obtain rfl := Option.some.inj hv17
          exact fin_pure hΓ (.inr rfl) rfl rfl
        · have h19 := cF h15 hb
          refine go hΓ 7 rfl ?_
          obtain rfl := Option.some.inj h19
          exact ⟨_, rfl, ⟨⟨rfl, rfl, rfl, get_eq rfl (w64_succ (Nat.lt_of_lt_of_le hlt hb9)), trivial⟩, [], rfl, .inl rfl⟩⟩
      · subst hgo
        refine go hΓ 6 rfl ?_
        refine j_condF rfl (decide_eq_false (Int.lt_irrefl _)) ?_
        refine go hΓ 4 rfl ?_
        exact ⟨_, rfl, ⟨trivial, [], rfl, .inl rfl⟩⟩
    · intro a8 ha
      subst ha
      replace h7 := goI_l h7
      refine go hΓ 7 rfl ?_
      obtain rfl := Option.some.inj h7
      exact fin_pure hΓ (.inr rfl) rfl rfl
theorem c_lanelaw1_routed {k : Nat} {al : BagT} {r : Bool × BagT} (h : m_lanelaw1_routed k al = some r) : EC Tryd.prog 22 [] [.bag al.1 (arX al.2) []] fun g hp' => g = B r.1 ∧ hp' = [.bag r.2.1 (arX r.2.2) []] := by
  refine ec_enter (Fr.of 0 _) Tryd.func22 rfl (Fr.of_ok _) (Nat.le_of_ble_eq_true rfl) fun _ => ?_
  refine go_in ?_
  unfold m_lanelaw1_routed at h
  refine go hΓ 7 rfl ?_
  refine eo_build hΓ (gs := [S [97], S [98], I 3]) rfl rfl rfl rfl rfl rfl rfl ?_
  refine eo_litT hΓ (enc := e_api_Link) [(⟨[97], [98], 3⟩ : T_api_Link)] rfl rfl rfl rfl rfl rfl rfl rfl rfl rfl rfl rfl (Nat.le_of_ble_eq_true rfl) ?_
  obtain ⟨y1, hy1, h2⟩ := bi_ok h
  refine eo_callF [0] (.tup [.d (Sl eS y1.1), I y1.2.1, I y1.2.2.1]) [.bag y1.2.2.2.1 (arX y1.2.2.2.2) []] (callable Tryd.func24 rfl rfl) (c_route_Through hy1) rfl (Nat.le_of_ble_eq_true rfl) rfl rfl rfl rfl rfl rfl rfl rfl rfl rfl ?_
  refine go_ops hΓ 14 rfl ?_
  refine o_cut 3 [(0, B false), (1, .d (Sl eS y1.1)), (16, B (((y1.2.2.1 : Int) == 0) && ((y1.2.1 : Int) == 3)))] [.bag y1.2.2.2.1 (arX y1.2.2.2.2) []] ?_ ?_
  · refine eo_gsplit rfl rfl (fun hb => ?_) (fun hb => ?_)
    · refine go_ops hΓ 4 rfl ?_
      exact ⟨⟨rfl, rfl, get_b rfl (and_t hb), trivial⟩, [], rfl, .inl rfl⟩
    · refine go_ops hΓ 4 rfl ?_
      exact ⟨⟨rfl, rfl, get_b rfl (and_f hb), trivial⟩, [], rfl, .inl rfl⟩
  · refine go_ops hΓ 1 rfl ?_
    obtain ⟨q3, hq3, h4⟩ := bi_ok h2
    refine o_cut 4 [(0, B false), (21, B q3)] [.bag y1.2.2.2.1 (arX y1.2.2.2.2) []] ?_ ?_
    · refine eo_gsplit rfl rfl (fun hb => ?_) (fun hb => ?_)
      · have h5 := cT hq3 hb
        refine go_ops hΓ 1 rfl ?_
        refine eo_guard rfl ?_
        refine eo_litT hΓ (enc := eS) [[98], [97]] rfl rfl rfl rfl rfl rfl rfl rfl rfl rfl rfl rfl (Nat.le_of_ble_eq_true rfl) ?_
        obtain ⟨y6, hy6, h7⟩ := bi_ok h5
        refine eo_guard rfl ?_
        refine eo_callP (callable Tryd.func28 rfl rfl) (c_slices_Equal_string_string hy6) rfl (Nat.le_of_ble_eq_true rfl) rfl rfl rfl rfl rfl ?_
        refine go_ops hΓ 2 rfl ?_
        obtain rfl := Option.some.inj h7
        exact ⟨⟨rfl, rfl, trivial⟩, [], rfl, .inl rfl⟩
      · have h8 := cF hq3 hb
        refine go_ops hΓ 5 rfl ?_
        obtain rfl := Option.some.inj h8
        exact ⟨⟨rfl, rfl, trivial⟩, [], rfl, .inl rfl⟩
    · refine go_ops hΓ 4 rfl ?_
      obtain rfl := Option.some.inj h4
      exact fin_objs hΓ [] (.inr rfl) rfl rfl rfl rfl (.inl rfl)
set_option maxHeartbeats 8000000 in
theorem c_lanelaw1_HomesChosen {k : Nat} {l : List Int} {al : BagT} {r : Bool × BagT} (h : m_lanelaw1_HomesChosen k l al = some r) : EC Tryd.prog 3 [.d (Sl (eN .i64) l)] [.bag al.1 (arX al.2) []] fun g hp' => g = B r.1 ∧ hp' = [.bag r.2.1 (arX r.2.2) []] := by
  refine ec_enter (Fr.of 0 _) Tryd.func3 rfl (Fr.of_ok _) (Nat.le_of_ble_eq_true rfl) fun _ => ?_
  refine go_in ?_
  unfold m_lanelaw1_HomesChosen at h
  refine go hΓ 8 rfl ?_
  refine eo_build hΓ (gs := [.d (Sl (eN .i64) l), I 0]) rfl rfl rfl rfl rfl rfl rfl ?_
  refine eo_box rfl rfl rfl rfl (Nat.le_of_ble_eq_true rfl) ?_
  obtain ⟨y1, hy1, h2⟩ := bi_ok h
  refine go_ops hΓ 7 rfl ?_
  refine eo_callF [1] (I y1.1) [.bag al.1 (arX al.2) [], .box 25 [.d (Sl (eN .i64) y1.2.L), I y1.2.v_at]] (callable Tryd.func7 rfl rfl) (c_lanemake_Stream_Range hy1) rfl (Nat.le_of_ble_eq_true rfl) rfl rfl rfl rfl rfl rfl rfl rfl rfl rfl ?_
  obtain ⟨y3, hy3, h4⟩ := bi_ok h2
  refine eo_callF [1] (.sl 2 y3.1.length) [.bag al.1 (arX al.2) [], .box 25 [.d (Sl (eN .i64) y3.2.L), I y3.2.v_at], .row 67 4 y3.1.length (y3.1.flatMap e_api_Probe)] (callable Tryd.func6 rfl rfl) (c_lanemake_Stream_Probes hy3) rfl (Nat.le_of_ble_eq_true rfl) rfl rfl rfl rfl rfl rfl rfl rfl rfl rfl ?_
  refine eo_shr 2 [21] _ [.bag al.1 (arX al.2) [], .box 25 [.d (Sl (eN .i64) y3.2.L), I y3.2.v_at], .dead] rfl rfl rfl (Nat.le_of_ble_eq_true rfl) ?_
  refine go_ops hΓ 1 rfl ?_
  refine eo_litT hΓ (enc := (eN .i64)) [0, 1, 5, 10, 30, -1, 1000001] rfl rfl rfl rfl rfl rfl rfl rfl rfl rfl rfl rfl (Nat.le_of_ble_eq_true rfl) ?_
  obtain ⟨y5, hy5, h6⟩ := bi_ok h4
  refine eo_callF [1] (I y5.1) [.bag al.1 (arX al.2) [], .box 25 [.d (Sl (eN .i64) y5.2.L), I y5.2.v_at], .dead] (callable Tryd.func8 rfl rfl) (c_lanemake_Stream_Pick hy5) rfl (Nat.le_of_ble_eq_true rfl) rfl rfl rfl rfl rfl rfl rfl rfl rfl rfl ?_
  refine go_ops hΓ 1 rfl ?_
  refine eo_litT hΓ (enc := eS) [[110, 97], [110, 97], [110, 98], []] rfl rfl rfl rfl rfl rfl rfl rfl rfl rfl rfl rfl (Nat.le_of_ble_eq_true rfl) ?_
  obtain ⟨y7, hy7, h8⟩ := bi_ok h6
  refine eo_callF [1] (S y7.1) [.bag al.1 (arX al.2) [], .box 25 [.d (Sl (eN .i64) y7.2.L), I y7.2.v_at], .dead] (callable Tryd.func9 rfl rfl) (c_lanemake_Stream_Some hy7) rfl (Nat.le_of_ble_eq_true rfl) rfl rfl rfl rfl rfl rfl rfl rfl rfl rfl ?_
  refine go_ops hΓ 1 rfl ?_
  refine eo_litT hΓ (enc := (eN .i64)) [0, 5, 10, 25, 40, 1000, -1] rfl rfl rfl rfl rfl rfl rfl rfl rfl rfl rfl rfl (Nat.le_of_ble_eq_true rfl) ?_
  obtain ⟨y9, hy9, h10⟩ := bi_ok h8
  refine eo_callF [1] (I y9.1) [.bag al.1 (arX al.2) [], .box 25 [.d (Sl (eN .i64) y9.2.L), I y9.2.v_at], .dead] (callable Tryd.func8 rfl rfl) (c_lanemake_Stream_Pick hy9) rfl (Nat.le_of_ble_eq_true rfl) rfl rfl rfl rfl rfl rfl rfl rfl rfl rfl ?_
  obtain ⟨y11, hy11, h12⟩ := bi_ok h10
  refine go_ops hΓ 12 rfl ?_
  refine eo_callP (callable Tryd.func10 rfl rfl) (c_route_Home hy11) rfl (Nat.le_of_ble_eq_true rfl) rfl rfl rfl rfl rfl ?_
  obtain ⟨y13, hy13, h14⟩ := bi_ok h12
  refine go_ops hΓ 12 rfl ?_
  refine eo_callP (callable Tryd.func11 rfl rfl) (c_route_Homes hy13) rfl (Nat.le_of_ble_eq_true rfl) rfl rfl rfl rfl rfl ?_
  obtain ⟨y15, hy15, h16⟩ := bi_ok h14
  refine go_ops hΓ 10 rfl ?_
  refine eo_callP (callable Tryd.func12 rfl rfl) (c_laneref1_ProbesFault hy15) rfl (Nat.le_of_ble_eq_true rfl) rfl rfl rfl rfl rfl ?_
  obtain ⟨y17, hy17, h18⟩ := bi_ok h16
  refine go_ops hΓ 7 rfl ?_
  refine eo_callP (callable Tryd.func13 rfl rfl) (c_route_CheckProbes hy17) rfl (Nat.le_of_ble_eq_true rfl) rfl rfl rfl rfl rfl ?_
  refine go_ops hΓ 4 rfl ?_
  refine j_cond rfl (fun hb => ?_) (fun hb => ?_)
  · have h19 := cT h18 hb
    refine go hΓ 7 rfl ?_
    obtain rfl := Option.some.inj h19
    exact fin_objs hΓ [_, _] (.inr rfl) rfl rfl rfl rfl (.inr ⟨HB.mk rfl, rfl⟩)
  · have h20 := cF h18 hb
    obtain ⟨y21, hy21, h22⟩ := bi_ok h20
    refine go hΓ 6 rfl ?_
    refine eo_callP (callable Tryd.func15 rfl rfl) (c_laneref1_GainFault hy21) rfl (Nat.le_of_ble_eq_true rfl) rfl rfl rfl rfl rfl ?_
    obtain ⟨y23, hy23, h24⟩ := bi_ok h22
    refine go_ops hΓ 1 rfl ?_
    refine eo_callP (callable Tryd.func16 rfl rfl) (c_laneref1_KeyFault hy23) rfl (Nat.le_of_ble_eq_true rfl) rfl rfl rfl rfl rfl ?_
    refine eo_litT hΓ (enc := (eN .i64)) [y15, y21, y23] rfl rfl rfl rfl rfl rfl rfl rfl rfl rfl rfl rfl (Nat.le_of_ble_eq_true rfl) ?_
    obtain ⟨y25, hy25, h26⟩ := bi_ok h24
    refine eo_callP (callable Tryd.func14 rfl rfl) (c_cmp_Or_api_Errno hy25) rfl (Nat.le_of_ble_eq_true rfl) rfl rfl rfl rfl rfl ?_
    obtain ⟨y27, hy27, h28⟩ := bi_ok h26
    refine go_ops hΓ 7 rfl ?_
    refine eo_callP (callable Tryd.func17 rfl rfl) (c_laneref1_MomentFault hy27) rfl (Nat.le_of_ble_eq_true rfl) rfl rfl rfl rfl rfl ?_
    refine eo_litT hΓ (enc := (eN .i64)) [y25, y27] rfl rfl rfl rfl rfl rfl rfl rfl rfl rfl rfl rfl (Nat.le_of_ble_eq_true rfl) ?_
    obtain ⟨y29, hy29, h30⟩ := bi_ok h28
    refine eo_callP (callable Tryd.func14 rfl rfl) (c_cmp_Or_api_Errno hy29) rfl (Nat.le_of_ble_eq_true rfl) rfl rfl rfl rfl rfl ?_
    obtain ⟨q31, hq31, h32⟩ := bi_ok h30
    refine go_ops hΓ 11 rfl ?_
    refine j_cutNZ [(4, .d (Sl e_api_Probe y3.1)), (5, I y5.1), (6, S y7.1), (8, S y11.1), (9, I y11.2), (10, .d (Sl e_api_Turn y13.1)), (11, I y13.2), (12, I y25), (13, I q31.2.1), (14, S q31.2.2)] [.bag q31.1.1 (arX q31.1.2) [], .box 25 [.d (Sl (eN .i64) y9.2.L), I y9.2.v_at], .dead] ?_ ?_
    · refine j_cond rfl (fun hb => ?_) (fun hb => ?_)
      · have h33 := cT hq31 hb
        obtain ⟨y34, hy34, h35⟩ := bi_ok h33
        refine go hΓ 6 rfl ?_
        refine eo_callF [0] (S y34.1) [.bag y34.2.1 (arX y34.2.2) [], .box 25 [.d (Sl (eN .i64) y9.2.L), I y9.2.v_at], .dead] (callable Tryd.func18 rfl rfl) (c_laneref1_HomeAt hy34) rfl (Nat.le_of_ble_eq_true rfl) rfl rfl rfl rfl rfl rfl rfl rfl rfl rfl ?_
        obtain ⟨y36, hy36, h37⟩ := bi_ok h35
        refine go_ops hΓ 6 rfl ?_
        refine eo_callP (callable Tryd.func19 rfl rfl) (c_lanelaw1_when hy36) rfl (Nat.le_of_ble_eq_true rfl) rfl rfl rfl rfl rfl ?_
        refine go_ops hΓ 2 rfl ?_
        obtain rfl := Option.some.inj h37
        exact ⟨⟨rfl, rfl, rfl, rfl, rfl, rfl, rfl, rfl, rfl, rfl, trivial⟩, [], rfl, .inl rfl⟩
      · have h38 := cF hq31 hb
        refine go hΓ 1 rfl ?_
        obtain rfl := Option.some.inj h38
        exact ⟨⟨rfl, rfl, rfl, rfl, rfl, rfl, rfl, rfl, rfl, rfl, trivial⟩, [], rfl, .inl rfl⟩
    · refine go hΓ 7 rfl ?_
      refine o_cut 4 [(4, .d (Sl e_api_Probe y3.1)), (5, I y5.1), (6, S y7.1), (10, .d (Sl e_api_Turn y13.1)), (11, I y13.2), (12, I y25), (81, B (((y11.2 : Int) == q31.2.1) && ((y11.1 : Str) == q31.2.2)))] [.bag q31.1.1 (arX q31.1.2) [], .box 25 [.d (Sl (eN .i64) y9.2.L), I y9.2.v_at], .dead] ?_ ?_
      · refine eo_gsplit rfl rfl (fun hb => ?_) (fun hb => ?_)
        · refine go_ops hΓ 5 rfl ?_
          exact ⟨⟨rfl, rfl, rfl, rfl, rfl, rfl, get_b rfl (and_t hb), trivial⟩, [], rfl, .inl rfl⟩
        · refine go_ops hΓ 5 rfl ?_
          exact ⟨⟨rfl, rfl, rfl, rfl, rfl, rfl, get_b rfl (and_f hb), trivial⟩, [], rfl, .inl rfl⟩
      · refine go_ops hΓ 1 rfl ?_
        refine o_cut 4 [(4, .d (Sl e_api_Probe y3.1)), (5, I y5.1), (6, S y7.1), (10, .d (Sl e_api_Turn y13.1)), (12, I y25), (86, B ((((y11.2 : Int) == q31.2.1) && ((y11.1 : Str) == q31.2.2)) && ((y13.2 : Int) == y25)))] [.bag q31.1.1 (arX q31.1.2) [], .box 25 [.d (Sl (eN .i64) y9.2.L), I y9.2.v_at], .dead] ?_ ?_
        · refine eo_gsplit rfl rfl (fun hb => ?_) (fun hb => ?_)
          · refine go_ops hΓ 5 rfl ?_
            exact ⟨⟨rfl, rfl, rfl, rfl, rfl, get_b rfl (and_t hb), trivial⟩, [], rfl, .inl rfl⟩
          · refine go_ops hΓ 5 rfl ?_
            exact ⟨⟨rfl, rfl, rfl, rfl, rfl, get_b rfl (and_f hb), trivial⟩, [], rfl, .inl rfl⟩
        · refine go_ops hΓ 1 rfl ?_
          obtain ⟨q39, hq39, h40⟩ := bi_ok h32
          refine o_cut 11 [(98, B q39.2)] [.bag q39.1.1 (arX q39.1.2) [], .box 25 [.d (Sl (eN .i64) y9.2.L), I y9.2.v_at], .dead] ?_ ?_
          · refine eo_gsplit rfl rfl (fun hb => ?_) (fun hb => ?_)
            · have h41 := cT hq39 hb
              refine go_ops hΓ 3 rfl ?_
              obtain ⟨q42, hq42, h43⟩ := bi_ok h41
              refine o_cut 7 [(87, B true), (97, B q42.2)] [.bag q42.1.1 (arX q42.1.2) [], .box 25 [.d (Sl (eN .i64) y9.2.L), I y9.2.v_at], .dead] ?_ ?_
              · refine eo_gsplit rfl rfl (fun hb => ?_) (fun hb => ?_)
                · have h44 := cT hq42 hb
                  refine go_ops hΓ 8 rfl ?_
                  obtain rfl := Option.some.inj h44
                  exact ⟨⟨rfl, rfl, trivial⟩, [], rfl, .inl rfl⟩
                · have h45 := cF hq42 hb
                  obtain ⟨y46, hy46, h47⟩ := bi_ok h45
                  refine go_ops hΓ 4 rfl ?_
                  refine eo_guard rfl ?_
                  refine eo_callF [0] (.sl 3 y46.1.length) [.bag y46.2.1 (arX y46.2.2) [], .box 25 [.d (Sl (eN .i64) y9.2.L), I y9.2.v_at], .dead, .row 45 3 y46.1.length (y46.1.flatMap e_api_Turn)] (callable Tryd.func21 rfl rfl) (c_laneref1_HomeTurns hy46) rfl (Nat.le_of_ble_eq_true rfl) rfl rfl rfl rfl rfl rfl rfl rfl rfl rfl ?_
                  refine eo_shr 3 [95] _ [.bag y46.2.1 (arX y46.2.2) [], .box 25 [.d (Sl (eN .i64) y9.2.L), I y9.2.v_at], .dead, .dead] rfl rfl rfl (Nat.le_of_ble_eq_true rfl) ?_
                  obtain ⟨y48, hy48, h49⟩ := bi_ok h47
                  refine eo_guard rfl ?_
                  refine eo_callP (callable Tryd.func20 rfl rfl) (c_slices_Equal_api_Turn_api_Turn hy48) rfl (Nat.le_of_ble_eq_true rfl) rfl rfl rfl rfl rfl ?_
                  refine go_ops hΓ 2 rfl ?_
                  obtain rfl := Option.some.inj h49
                  exact ⟨⟨rfl, rfl, trivial⟩, [_], rfl, .inr ⟨HB.mk rfl, FB.mk rfl, (Nat.le_of_ble_eq_true rfl)⟩⟩
              · refine go_ops hΓ 2 rfl ?_
                obtain rfl := Option.some.inj h43
                exact ⟨⟨rfl, trivial⟩, [], rfl, .inl rfl⟩
            · have h50 := cF hq39 hb
              refine go_ops hΓ 12 rfl ?_
              obtain rfl := Option.some.inj h50
              exact ⟨⟨rfl, trivial⟩, [], rfl, .inl rfl⟩
          · refine go_ops hΓ 1 rfl ?_
            obtain ⟨q51, hq51, h52⟩ := bi_ok h40
            refine o_cut 2 [(101, B q51.2)] [.bag q51.1.1 (arX q51.1.2) [], .box 25 [.d (Sl (eN .i64) y9.2.L), I y9.2.v_at], .dead] ?_ ?_
            · refine eo_gsplit rfl rfl (fun hb => ?_) (fun hb => ?_)
              · have h53 := cT hq51 hb
                obtain ⟨y54, hy54, h55⟩ := bi_ok h53
                refine eo_guard rfl ?_
                refine eo_callF [0] (B y54.1) [.bag y54.2.1 (arX y54.2.2) [], .box 25 [.d (Sl (eN .i64) y9.2.L), I y9.2.v_at], .dead] (callable Tryd.func22 rfl rfl) (c_lanelaw1_routed hy54) rfl (Nat.le_of_ble_eq_true rfl) rfl rfl rfl rfl rfl rfl rfl rfl rfl rfl ?_
                refine go_ops hΓ 2 rfl ?_
                obtain rfl := Option.some.inj h55
                exact ⟨⟨rfl, trivial⟩, [], rfl, .inl rfl⟩
              · have h56 := cF hq51 hb
                refine go_ops hΓ 3 rfl ?_
                obtain rfl := Option.some.inj h56
                exact ⟨⟨rfl, trivial⟩, [], rfl, .inl rfl⟩
            · refine go_ops hΓ 4 rfl ?_
              obtain rfl := Option.some.inj h52
              exact fin_objs hΓ [_, _] (.inr rfl) rfl rfl rfl rfl (.inr ⟨HB.mk rfl, rfl⟩)
end Go.Proofs.YtnjnmkpgedkffaaDoor
