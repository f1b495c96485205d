/-
  The functions compute their models.
-/
import Derived.Test.YtnjnmkpgedkffaaDoorXRM
import Derived.Test.YtnjnmkpgedkffaaDoorGt
import Derived.Test.YtnjnmkpgedkffaaDoorStrR
set_option linter.unusedVariables false
set_option linter.unusedSimpArgs false
set_option maxRecDepth 100000
namespace Go.Proofs.YtnjnmkpgedkffaaDoor
open Go.Gk
abbrev e_lanemake_Stream (x : T_lanemake_Stream) : List D := [Sl (eN .i64) x.L, .v (.int .i64 x.v_at)]
abbrev e_api_Link (x : T_api_Link) : List D := [.v (.string ⟨x.A.toArray⟩), .v (.string ⟨x.v_B.toArray⟩), .v (.int .i64 x.Millis)]
abbrev e_api_Probe (x : T_api_Probe) : List D := [.v (.int .i64 x.At), .v (.string ⟨x.Node.toArray⟩), .v (.string ⟨x.Relay.toArray⟩), .v (.int .i64 x.Millis)]
abbrev e_route_step (x : T_route_step) : List D := [.v (.string ⟨x.to.toArray⟩), .v (.int .i64 x.millis)]
abbrev e_route_far (x : T_route_far) : List D := [.v (.int .i64 x.millis), .v (.int .i64 x.links)]
abbrev e_laneref1_trail (x : T_laneref1_trail) : List D := [Sl eS x.relays, .v (.int .i64 x.millis)]
abbrev e_api_Turn (x : T_api_Turn) : List D := [.v (.string ⟨x.Who.toArray⟩), .v (.int .i64 x.From), .v (.int .i64 x.To)]
abbrev arX (l0 : List (Nat × (List (Str × Int)))) : List Ar := arG (fM kS false (eN .i64)) l0
theorem c_lanemake_Below {x : Int} {n : Int} {r : Int} (h : m_lanemake_Below x n = some r) : Pure Tryd.prog 68 [I x, I n] (I r) := by
  refine Pure.enter (Fr.of 0 _) Tryd.func68 rfl (Fr.of_ok _) rfl rfl ?_
  refine go_in ?_
  unfold m_lanemake_Below at h
  refine go hΓ 12 rfl ?_
  refine j_cond rfl (fun hb => ?_) (fun hb => ?_)
  · have h1 := cT h hb
    refine go hΓ 7 rfl ?_
    obtain rfl := Option.some.inj h1
    exact fin_pure hΓ (.inr rfl) rfl rfl
  · have h2 := cF h hb
    obtain ⟨y3, hy3, h4⟩ := bi_ok h2
    refine go hΓ 6 rfl ?_
    refine eo_o rfl (op_remZ hy3 rfl rfl) ?_
    obtain ⟨q5, hq5, h6⟩ := bi_ok h4
    refine go_ops hΓ 10 rfl ?_
    refine j_cutNZ [(0, I q5)] [] ?_ ?_
    · refine j_cond rfl (fun hb => ?_) (fun hb => ?_)
      · have h7 := cT hq5 hb
        refine go hΓ 6 rfl ?_
        obtain rfl := Option.some.inj h7
        exact ⟨⟨rfl, trivial⟩, [], rfl, .inl rfl⟩
      · have h8 := cF hq5 hb
        refine go hΓ 1 rfl ?_
        obtain rfl := Option.some.inj h8
        exact ⟨⟨rfl, trivial⟩, [], rfl, .inl rfl⟩
    · refine go hΓ 8 rfl ?_
      obtain rfl := Option.some.inj h6
      exact fin_pure hΓ (.inr rfl) rfl rfl
theorem c_lanemake_Stream_Next {s : T_lanemake_Stream} {n : Int} {r : Int × T_lanemake_Stream} (h : m_lanemake_Stream_Next s n = some r) : EC Tryd.prog 39 [.ptr 0 0, I n] [.box 25 [.d (Sl (eN .i64) s.L), I s.v_at]] fun g hp' => g = I r.1 ∧ hp' = [.box 25 [.d (Sl (eN .i64) r.2.L), I r.2.v_at]] := by
  refine ec_enter (Fr.of 0 _) Tryd.func39 rfl (Fr.of_ok _) (Nat.le_of_ble_eq_true rfl) fun _ => ?_
  refine go_in ?_
  unfold m_lanemake_Stream_Next at h
  refine go hΓ 14 rfl ?_
  refine eo_store hΓ rfl rfl rfl rfl rfl rfl rfl rfl (Nat.le_of_ble_eq_true rfl) ?_
  refine eo_hp [.box 25 [.d (Sl (eN .i64) s.L), I (wi (s.v_at + 1))]] rfl ?_
  refine go_ops hΓ 13 rfl ?_
  refine j_cond rfl (fun hb => ?_) (fun hb => ?_)
  · have h1 := cT h hb
    obtain ⟨y2, hy2, h3⟩ := bi_ok h1
    refine go hΓ 8 rfl ?_
    refine eo_callP (callable Tryd.func68 rfl rfl) (c_lanemake_Below hy2) rfl (Nat.le_of_ble_eq_true rfl) rfl rfl rfl rfl rfl ?_
    refine go_ops hΓ 5 rfl ?_
    obtain rfl := Option.some.inj h3
    exact fin_objs hΓ [] (.inr rfl) rfl rfl rfl rfl (.inl rfl)
  · have h4 := cF h hb
    refine go hΓ 3 rfl ?_
    refine j_draw hmix (by kernel_rfl) ?_
    obtain ⟨y5, hy5, h6⟩ := bi_ok h4
    refine go hΓ 10 rfl ?_
    refine gl_o rfl (op_remZ hy5 rfl rfl) ?_
    refine go_draw hΓ 4 rfl ?_
    refine j_draw hmix (by kernel_rfl) ?_
    obtain ⟨y7, hy7, h8⟩ := bi_ok h6
    refine go hΓ 10 rfl ?_
    refine gl_o rfl (op_quoZ hy7 rfl rfl) ?_
    obtain ⟨x9, hx9, h10⟩ := bi_ok h8
    refine go_draw hΓ 10 rfl ?_
    refine eo_o rfl (op_elemZ hΓ (enc := (eN .i64)) hx9 rfl rfl rfl rfl rfl (fun _ => rfl)) ?_
    obtain ⟨y11, hy11, h12⟩ := bi_ok h10
    refine go_ops hΓ 1 rfl ?_
    refine eo_callP (callable Tryd.func68 rfl rfl) (c_lanemake_Below hy11) rfl (Nat.le_of_ble_eq_true rfl) rfl rfl rfl rfl rfl ?_
    obtain ⟨y13, hy13, h14⟩ := bi_ok h12
    refine go_ops hΓ 6 rfl ?_
    refine eo_callP (callable Tryd.func68 rfl rfl) (c_lanemake_Below hy13) rfl (Nat.le_of_ble_eq_true rfl) rfl rfl rfl rfl rfl ?_
    refine go_ops hΓ 4 rfl ?_
    obtain rfl := Option.some.inj h14
    exact fin_objs hΓ [] (.inr rfl) rfl rfl rfl rfl (.inl rfl)
theorem c_lanemake_Stream_Flip {s : T_lanemake_Stream} {n : Int} {r : Bool × T_lanemake_Stream} (h : m_lanemake_Stream_Flip s n = some r) : EC Tryd.prog 37 [.ptr 0 0, I n] [.box 25 [.d (Sl (eN .i64) s.L), I s.v_at]] fun g hp' => g = B r.1 ∧ hp' = [.box 25 [.d (Sl (eN .i64) r.2.L), I r.2.v_at]] := by
  refine ec_enter (Fr.of 0 _) Tryd.func37 rfl (Fr.of_ok _) (Nat.le_of_ble_eq_true rfl) fun _ => ?_
  refine go_in ?_
  unfold m_lanemake_Stream_Flip at h
  obtain ⟨y1, hy1, h2⟩ := bi_ok h
  refine go hΓ 9 rfl ?_
  refine eo_callF [0] (I y1.1) [.box 25 [.d (Sl (eN .i64) y1.2.L), I y1.2.v_at]] (callable Tryd.func39 rfl rfl) (c_lanemake_Stream_Next hy1) rfl (Nat.le_of_ble_eq_true rfl) rfl rfl rfl rfl rfl rfl rfl rfl rfl rfl ?_
  refine go_ops hΓ 5 rfl ?_
  obtain rfl := Option.some.inj h2
  exact fin_objs hΓ [] (.inr rfl) rfl rfl rfl rfl (.inl rfl)
theorem c_lanemake_Stream_Pick {s : T_lanemake_Stream} {l : List Int} {r : Int × T_lanemake_Stream} (h : m_lanemake_Stream_Pick s l = some r) : EC Tryd.prog 8 [.ptr 0 0, .d (Sl (eN .i64) l)] [.box 25 [.d (Sl (eN .i64) s.L), I s.v_at]] fun g hp' => g = I r.1 ∧ hp' = [.box 25 [.d (Sl (eN .i64) r.2.L), I r.2.v_at]] := by
  refine ec_enter (Fr.of 0 _) Tryd.func8 rfl (Fr.of_ok _) (Nat.le_of_ble_eq_true rfl) fun _ => ?_
  refine go_in ?_
  unfold m_lanemake_Stream_Pick at h
  obtain ⟨y1, hy1, h2⟩ := bi_ok h
  refine go hΓ 11 rfl ?_
  refine eo_callF [0] (I y1.1) [.box 25 [.d (Sl (eN .i64) y1.2.L), I y1.2.v_at]] (callable Tryd.func39 rfl rfl) (c_lanemake_Stream_Next hy1) rfl (Nat.le_of_ble_eq_true rfl) rfl rfl rfl rfl rfl rfl rfl rfl rfl rfl ?_
  obtain ⟨x3, hx3, h4⟩ := bi_ok h2
  refine eo_o rfl (op_elemZ hΓ (enc := (eN .i64)) hx3 rfl rfl rfl rfl rfl (fun _ => rfl)) ?_
  refine go_ops hΓ 5 rfl ?_
  obtain rfl := Option.some.inj h4
  exact fin_objs hΓ [] (.inr rfl) rfl rfl rfl rfl (.inl rfl)
theorem c_lanemake_Stream_Some {s : T_lanemake_Stream} {l : List Str} {r : Str × T_lanemake_Stream} (h : m_lanemake_Stream_Some s l = some r) : EC Tryd.prog 9 [.ptr 0 0, .d (Sl eS l)] [.box 25 [.d (Sl (eN .i64) s.L), I s.v_at]] fun g hp' => g = S r.1 ∧ hp' = [.box 25 [.d (Sl (eN .i64) r.2.L), I r.2.v_at]] := by
  refine ec_enter (Fr.of 0 _) Tryd.func9 rfl (Fr.of_ok _) (Nat.le_of_ble_eq_true rfl) fun _ => ?_
  refine go_in ?_
  unfold m_lanemake_Stream_Some at h
  obtain ⟨y1, hy1, h2⟩ := bi_ok h
  refine go hΓ 11 rfl ?_
  refine eo_callF [0] (I y1.1) [.box 25 [.d (Sl (eN .i64) y1.2.L), I y1.2.v_at]] (callable Tryd.func39 rfl rfl) (c_lanemake_Stream_Next hy1) rfl (Nat.le_of_ble_eq_true rfl) rfl rfl rfl rfl rfl rfl rfl rfl rfl rfl ?_
  obtain ⟨x3, hx3, h4⟩ := bi_ok h2
  refine eo_o rfl (op_elemZ hΓ (enc := eS) hx3 rfl rfl rfl rfl rfl (fun _ => rfl)) ?_
  refine go_ops hΓ 5 rfl ?_
  obtain rfl := Option.some.inj h4
  exact fin_objs hΓ [] (.inr rfl) rfl rfl rfl rfl (.inl rfl)
theorem c_lanemake_Stream_Range {s : T_lanemake_Stream} {low : Int} {high : Int} {r : Int × T_lanemake_Stream} (h : m_lanemake_Stream_Range s low high = some r) : EC Tryd.prog 7 [.ptr 0 0, I low, I high] [.box 25 [.d (Sl (eN .i64) s.L), I s.v_at]] fun g hp' => g = I r.1 ∧ hp' = [.box 25 [.d (Sl (eN .i64) r.2.L), I r.2.v_at]] := by
  refine ec_enter (Fr.of 0 _) Tryd.func7 rfl (Fr.of_ok _) (Nat.le_of_ble_eq_true rfl) fun _ => ?_
  refine go_in ?_
  unfold m_lanemake_Stream_Range at h
  refine go hΓ 13 rfl ?_
  refine j_cond rfl (fun hb => ?_) (fun hb => ?_)
  · have h1 := cT h hb
    refine go hΓ 8 rfl ?_
    obtain rfl := Option.some.inj h1
    exact fin_objs hΓ [] (.inr rfl) rfl rfl rfl rfl (.inl rfl)
  · have h2 := cF h hb
    obtain ⟨y3, hy3, h4⟩ := bi_ok h2
    refine go hΓ 10 rfl ?_
    refine eo_callF [0] (I y3.1) [.box 25 [.d (Sl (eN .i64) y3.2.L), I y3.2.v_at]] (callable Tryd.func39 rfl rfl) (c_lanemake_Stream_Next hy3) rfl (Nat.le_of_ble_eq_true rfl) rfl rfl rfl rfl rfl rfl rfl rfl rfl rfl ?_
    refine go_ops hΓ 5 rfl ?_
    obtain rfl := Option.some.inj h4
    exact fin_objs hΓ [] (.inr rfl) rfl rfl rfl rfl (.inl rfl)
theorem c_lanemake_Stream_Odd {s : T_lanemake_Stream} {low : Int} {high : Int} {r : Int × T_lanemake_Stream} (h : m_lanemake_Stream_Odd s low high = some r) : EC Tryd.prog 38 [.ptr 0 0, I low, I high] [.box 25 [.d (Sl (eN .i64) s.L), I s.v_at]] fun g hp' => g = I r.1 ∧ hp' = [.box 25 [.d (Sl (eN .i64) r.2.L), I r.2.v_at]] := by
  refine ec_enter (Fr.of 0 _) Tryd.func38 rfl (Fr.of_ok _) (Nat.le_of_ble_eq_true rfl) fun _ => ?_
  refine go_in ?_
  unfold m_lanemake_Stream_Odd at h
  obtain ⟨y1, hy1, h2⟩ := bi_ok h
  refine go hΓ 9 rfl ?_
  refine eo_callF [0] (B y1.1) [.box 25 [.d (Sl (eN .i64) y1.2.L), I y1.2.v_at]] (callable Tryd.func37 rfl rfl) (c_lanemake_Stream_Flip hy1) rfl (Nat.le_of_ble_eq_true rfl) rfl rfl rfl rfl rfl rfl rfl rfl rfl rfl ?_
  refine go_ops hΓ 2 rfl ?_
  refine j_cond rfl (fun hb => ?_) (fun hb => ?_)
  · have h3 := cT h2 hb
    refine go hΓ 9 rfl ?_
    refine eo_litT hΓ (enc := (eN .i64)) [wi (low - 1), wi (high + 1), low, high, -1099511627776, 1099511627776] rfl rfl rfl rfl rfl rfl rfl rfl rfl rfl rfl rfl (Nat.le_of_ble_eq_true rfl) ?_
    obtain ⟨y4, hy4, h5⟩ := bi_ok h3
    refine eo_callF [0] (I y4.1) [.box 25 [.d (Sl (eN .i64) y4.2.L), I y4.2.v_at]] (callable Tryd.func8 rfl rfl) (c_lanemake_Stream_Pick hy4) rfl (Nat.le_of_ble_eq_true rfl) rfl rfl rfl rfl rfl rfl rfl rfl rfl rfl ?_
    refine go_ops hΓ 5 rfl ?_
    obtain rfl := Option.some.inj h5
    exact fin_objs hΓ [] (.inr rfl) rfl rfl rfl rfl (.inl rfl)
  · have h6 := cF h2 hb
    obtain ⟨y7, hy7, h8⟩ := bi_ok h6
    refine go hΓ 7 rfl ?_
    refine eo_callF [0] (I y7.1) [.box 25 [.d (Sl (eN .i64) y7.2.L), I y7.2.v_at]] (callable Tryd.func7 rfl rfl) (c_lanemake_Stream_Range hy7) rfl (Nat.le_of_ble_eq_true rfl) rfl rfl rfl rfl rfl rfl rfl rfl rfl rfl ?_
    refine go_ops hΓ 4 rfl ?_
    obtain rfl := Option.some.inj h8
    exact fin_objs hΓ [] (.inr rfl) rfl rfl rfl rfl (.inl rfl)
set_option maxHeartbeats 8000000 in
theorem c_lanemake_Stream_Links {s : T_lanemake_Stream} {r : (List T_api_Link) × T_lanemake_Stream} (h : m_lanemake_Stream_Links s = some r) : EC Tryd.prog 23 [.ptr 0 0] [.box 25 [.d (Sl (eN .i64) s.L), I s.v_at]] fun g hp' => g = .sl 1 r.1.length ∧ hp' = [.box 25 [.d (Sl (eN .i64) r.2.L), I r.2.v_at], .row 80 3 r.1.length (r.1.flatMap e_api_Link)] := by
  refine ec_enterC (Fr.of 0 _) Tryd.func23 rfl (Fr.of_ok _) (Nat.le_of_ble_eq_true rfl) fun _ => ?_
  refine go_in ?_
  unfold m_lanemake_Stream_Links at h
  refine go hΓ 7 rfl ?_
  refine eo_litT hΓ (enc := eS) [[102, 114, 97], [108, 111, 110], [110, 121, 99], [115, 121, 100], [116, 111, 107]] rfl rfl rfl rfl rfl rfl rfl rfl rfl rfl rfl rfl (Nat.le_of_ble_eq_true rfl) ?_
  refine go_ops hΓ 5 rfl ?_
  refine eo_nilOwn (t := 0) 80 3 rfl (Nat.le_of_ble_eq_true rfl) ?_
  refine go_ops hΓ 10 rfl ?_
  obtain ⟨q4, hq4, h5⟩ := bi_ok h
  refine j_bound 3 rfl fun hb7 => ?_
  refine j_cutNZ [(0, .ptr 0 0), (4, .sl 1 q4.2.length)] [.box 25 [.d (Sl (eN .i64) q4.1.L), I q4.1.v_at], .row 80 3 q4.2.length (q4.2.flatMap e_api_Link)] ?_ ?_
  · refine go hΓ 1 rfl ?_
    refine j_rangeF [[102, 114, 97], [108, 111, 110], [110, 121, 99], [115, 121, 100], [116, 111, 107]] hq4 (fun i1 s2 => [(0, .ptr 0 0), (3, .d (Sl eS [[102, 114, 97], [108, 111, 110], [110, 121, 99], [115, 121, 100], [116, 111, 107]])), (4, .sl 1 s2.2.length), (10, .d (Sl eS [[102, 114, 97], [108, 111, 110], [110, 121, 99], [115, 121, 100], [116, 111, 107]])), (11, I ([[102, 114, 97], [108, 111, 110], [110, 121, 99], [115, 121, 100], [116, 111, 107]].length : Int)), (12, I (i1 : Int))]) (fun s2 => [.box 25 [.d (Sl (eN .i64) s2.1.L), I s2.1.v_at], .row 80 3 s2.2.length (s2.2.flatMap e_api_Link)]) ⟨⟨rfl, rfl, rfl, rfl, rfl, rfl, trivial⟩, [], rfl, .inl rfl⟩ (fun i1 x3 s2 y11 hx8 hlt hy9 => ?_) (?_)
    · refine go hΓ 6 rfl ?_
      refine j_condT rfl (decide_eq_true (Int.ofNat_lt.2 hlt)) ?_
      refine go hΓ 7 rfl ?_
      refine eo_o rfl (op_elemZ hΓ (enc := eS) (getZ_nat hx8) rfl rfl rfl rfl rfl (fun _ => rfl)) ?_
      obtain ⟨z12, hz12, h13⟩ := bi_ok hy9
      refine go_ops hΓ 10 rfl ?_
      refine eo_o rfl (op_subRoZ hΓ (enc := eS) hz12 rfl rfl rfl rfl rfl rfl (fun _ => rfl)) ?_
      refine go_ops hΓ 4 rfl ?_
      obtain ⟨q17, hq17, h18⟩ := bi_ok h13
      refine j_bound 20 rfl fun hb20 => ?_
      refine j_cutNZ [(0, .ptr 0 0), (3, .d (Sl eS [[102, 114, 97], [108, 111, 110], [110, 121, 99], [115, 121, 100], [116, 111, 107]])), (4, .sl 1 q17.2.length), (10, .d (Sl eS [[102, 114, 97], [108, 111, 110], [110, 121, 99], [115, 121, 100], [116, 111, 107]])), (11, I ([[102, 114, 97], [108, 111, 110], [110, 121, 99], [115, 121, 100], [116, 111, 107]].length : Int)), (12, I (i1 : Int))] [.box 25 [.d (Sl (eN .i64) q17.1.L), I q17.1.v_at], .row 80 3 q17.2.length (q17.2.flatMap e_api_Link)] ?_ ?_
      · refine go hΓ 1 rfl ?_
        refine j_rangeF z12 hq17 (fun i14 s15 => [(0, .ptr 0 0), (3, .d (Sl eS [[102, 114, 97], [108, 111, 110], [110, 121, 99], [115, 121, 100], [116, 111, 107]])), (4, .sl 1 s15.2.length), (6, S x3), (10, .d (Sl eS [[102, 114, 97], [108, 111, 110], [110, 121, 99], [115, 121, 100], [116, 111, 107]])), (11, I ([[102, 114, 97], [108, 111, 110], [110, 121, 99], [115, 121, 100], [116, 111, 107]].length : Int)), (12, I (i1 : Int)), (20, .d (Sl eS z12)), (21, I (z12.length : Int)), (22, I (i14 : Int))]) (fun s15 => [.box 25 [.d (Sl (eN .i64) s15.1.L), I s15.1.v_at], .row 80 3 s15.2.length (s15.2.flatMap e_api_Link)]) ⟨⟨rfl, rfl, rfl, rfl, rfl, rfl, rfl, rfl, rfl, rfl, trivial⟩, [], rfl, .inl rfl⟩ (fun i14 x16 s15 y24 hx21 hlt hy22 => ?_) (?_)
        · refine go hΓ 6 rfl ?_
          refine j_condT rfl (decide_eq_true (Int.ofNat_lt.2 hlt)) ?_
          refine go hΓ 6 rfl ?_
          refine eo_o rfl (op_elemZ hΓ (enc := eS) (getZ_nat hx21) rfl rfl rfl rfl rfl (fun _ => rfl)) ?_
          obtain ⟨y25, hy25, h26⟩ := bi_ok hy22
          refine go_ops hΓ 7 rfl ?_
          refine eo_callF [0] (B y25.1) [.box 25 [.d (Sl (eN .i64) y25.2.L), I y25.2.v_at], .row 80 3 s15.2.length (s15.2.flatMap e_api_Link)] (callable Tryd.func37 rfl rfl) (c_lanemake_Stream_Flip hy25) rfl (Nat.le_of_ble_eq_true rfl) rfl rfl rfl rfl rfl rfl rfl rfl rfl rfl ?_
          refine go_ops hΓ 3 rfl ?_
          refine j_cond rfl (fun hb => ?_) (fun hb => ?_)
          · have h27 := cT h26 hb
            refine go hΓ 5 rfl ?_
            refine eo_litT hΓ (enc := (eN .i64)) [0, 5, 5, 10, 15, 90] rfl rfl rfl rfl rfl rfl rfl rfl rfl rfl rfl rfl (Nat.le_of_ble_eq_true rfl) ?_
            obtain ⟨y28, hy28, h29⟩ := bi_ok h27
            refine eo_callF [0] (I y28.1) [.box 25 [.d (Sl (eN .i64) y28.2.L), I y28.2.v_at], .row 80 3 s15.2.length (s15.2.flatMap e_api_Link)] (callable Tryd.func8 rfl rfl) (c_lanemake_Stream_Pick hy28) rfl (Nat.le_of_ble_eq_true rfl) rfl rfl rfl rfl rfl rfl rfl rfl rfl rfl ?_
            refine eo_build hΓ (gs := [S x3, S x16, I y28.1]) rfl rfl rfl rfl rfl rfl rfl ?_
            refine eo_litT hΓ (enc := e_api_Link) [(⟨x3, x16, y28.1⟩ : T_api_Link)] rfl rfl rfl rfl rfl rfl rfl rfl rfl rfl rfl rfl (Nat.le_of_ble_eq_true rfl) ?_
            obtain ⟨y30, hy30, h31⟩ := bi_ok h29
            refine eo_appendT hΓ (enc := e_api_Link) hy30 rfl rfl rfl rfl rfl rfl rfl rfl rfl (fun _ => rfl) rfl rfl rfl rfl ?_
            refine go_ops hΓ 8 rfl ?_
            obtain rfl := Option.some.inj h31
            exact ⟨⟨rfl, rfl, rfl, rfl, rfl, rfl, rfl, rfl, rfl, get_eq rfl (w64_succ (Nat.lt_of_lt_of_le hlt hb20)), trivial⟩, [], rfl, .inl rfl⟩
          · have h32 := cF h26 hb
            refine go hΓ 7 rfl ?_
            obtain rfl := Option.some.inj h32
            exact ⟨⟨rfl, rfl, rfl, rfl, rfl, rfl, rfl, rfl, rfl, get_eq rfl (w64_succ (Nat.lt_of_lt_of_le hlt hb20)), trivial⟩, [], rfl, .inl rfl⟩
        · refine go hΓ 6 rfl ?_
          refine j_condF rfl (decide_eq_false (Int.lt_irrefl _)) ?_
          refine go hΓ 4 rfl ?_
          exact ⟨⟨rfl, rfl, rfl, rfl, rfl, rfl, trivial⟩, [], rfl, .inl rfl⟩
      · refine go hΓ 6 rfl ?_
        obtain rfl := Option.some.inj h18
        exact ⟨⟨rfl, rfl, rfl, rfl, rfl, get_eq rfl (w64_succ (Nat.lt_of_lt_of_le hlt hb7)), trivial⟩, [], rfl, .inl rfl⟩
    · refine go hΓ 6 rfl ?_
      refine j_condF rfl (decide_eq_false (Int.lt_irrefl _)) ?_
      refine go hΓ 4 rfl ?_
      exact ⟨⟨rfl, rfl, trivial⟩, [], rfl, .inl rfl⟩
  · obtain ⟨y33, hy33, h34⟩ := bi_ok h5
    refine go hΓ 5 rfl ?_
    refine eo_callF [0] (B y33.1) [.box 25 [.d (Sl (eN .i64) y33.2.L), I y33.2.v_at], .row 80 3 q4.2.length (q4.2.flatMap e_api_Link)] (callable Tryd.func37 rfl rfl) (c_lanemake_Stream_Flip hy33) rfl (Nat.le_of_ble_eq_true rfl) rfl rfl rfl rfl rfl rfl rfl rfl rfl rfl ?_
    obtain ⟨q35, hq35, h36⟩ := bi_ok h34
    refine go_ops hΓ 2 rfl ?_
    refine j_cutNZ [(4, .sl 1 q35.2.length)] [.box 25 [.d (Sl (eN .i64) q35.1.L), I q35.1.v_at], .row 80 3 q35.2.length (q35.2.flatMap e_api_Link)] ?_ ?_
    · refine j_cond rfl (fun hb => ?_) (fun hb => ?_)
      · have h37 := cT hq35 hb
        refine go hΓ 3 rfl ?_
        refine eo_litT hΓ (enc := eS) [[], [102, 114, 97], [122, 122]] rfl rfl rfl rfl rfl rfl rfl rfl rfl rfl rfl rfl (Nat.le_of_ble_eq_true rfl) ?_
        obtain ⟨y38, hy38, h39⟩ := bi_ok h37
        refine eo_callF [0] (S y38.1) [.box 25 [.d (Sl (eN .i64) y38.2.L), I y38.2.v_at], .row 80 3 q4.2.length (q4.2.flatMap e_api_Link)] (callable Tryd.func9 rfl rfl) (c_lanemake_Stream_Some hy38) rfl (Nat.le_of_ble_eq_true rfl) rfl rfl rfl rfl rfl rfl rfl rfl rfl rfl ?_
        refine go_ops hΓ 1 rfl ?_
        refine eo_litT hΓ (enc := eS) [[102, 114, 97], [122, 122, 122]] rfl rfl rfl rfl rfl rfl rfl rfl rfl rfl rfl rfl (Nat.le_of_ble_eq_true rfl) ?_
        obtain ⟨y40, hy40, h41⟩ := bi_ok h39
        refine eo_callF [0] (S y40.1) [.box 25 [.d (Sl (eN .i64) y40.2.L), I y40.2.v_at], .row 80 3 q4.2.length (q4.2.flatMap e_api_Link)] (callable Tryd.func9 rfl rfl) (c_lanemake_Stream_Some hy40) rfl (Nat.le_of_ble_eq_true rfl) rfl rfl rfl rfl rfl rfl rfl rfl rfl rfl ?_
        obtain ⟨y42, hy42, h43⟩ := bi_ok h41
        refine go_ops hΓ 1 rfl ?_
        refine eo_callF [0] (I y42.1) [.box 25 [.d (Sl (eN .i64) y42.2.L), I y42.2.v_at], .row 80 3 q4.2.length (q4.2.flatMap e_api_Link)] (callable Tryd.func38 rfl rfl) (c_lanemake_Stream_Odd hy42) rfl (Nat.le_of_ble_eq_true rfl) rfl rfl rfl rfl rfl rfl rfl rfl rfl rfl ?_
        refine eo_build hΓ (gs := [S y38.1, S y40.1, I y42.1]) rfl rfl rfl rfl rfl rfl rfl ?_
        refine eo_litT hΓ (enc := e_api_Link) [(⟨y38.1, y40.1, y42.1⟩ : T_api_Link)] rfl rfl rfl rfl rfl rfl rfl rfl rfl rfl rfl rfl (Nat.le_of_ble_eq_true rfl) ?_
        obtain ⟨y44, hy44, h45⟩ := bi_ok h43
        refine eo_appendT hΓ (enc := e_api_Link) hy44 rfl rfl rfl rfl rfl rfl rfl rfl rfl (fun _ => rfl) rfl rfl rfl rfl ?_
        refine go_ops hΓ 2 rfl ?_
        obtain rfl := Option.some.inj h45
        exact ⟨⟨rfl, trivial⟩, [], rfl, .inl rfl⟩
      · have h46 := cF hq35 hb
        refine go hΓ 1 rfl ?_
        obtain rfl := Option.some.inj h46
        exact ⟨⟨rfl, trivial⟩, [], rfl, .inl rfl⟩
    · refine go hΓ 8 rfl ?_
      refine cv_here ?_
      obtain rfl := Option.some.inj h36
      exact fin_objs hΓ [] (.inr rfl) rfl rfl rfl rfl (.inl rfl)
set_option maxHeartbeats 8000000 in
theorem c_lanemake_Stream_Probes {s : T_lanemake_Stream} {many : Int} {r : (List T_api_Probe) × T_lanemake_Stream} (h : m_lanemake_Stream_Probes s many = some r) : EC Tryd.prog 6 [.ptr 0 0, I many] [.box 25 [.d (Sl (eN .i64) s.L), I s.v_at]] fun g hp' => g = .sl 1 r.1.length ∧ hp' = [.box 25 [.d (Sl (eN .i64) r.2.L), I r.2.v_at], .row 67 4 r.1.length (r.1.flatMap e_api_Probe)] := by
  refine ec_enterC (Fr.of 0 _) Tryd.func6 rfl (Fr.of_ok _) (Nat.le_of_ble_eq_true rfl) fun _ => ?_
  refine go_in ?_
  unfold m_lanemake_Stream_Probes at h
  refine go hΓ 7 rfl ?_
  refine eo_nilOwn (t := 0) 67 4 rfl (Nat.le_of_ble_eq_true rfl) ?_
  refine go_ops hΓ 9 rfl ?_
  obtain ⟨q4, hq4, h5⟩ := bi_ok h
  obtain ⟨hb7, h8⟩ := gd_ok hq4
  replace hb7 := of_decide_eq_true hb7
  refine j_cutNZ [(0, .ptr 0 0), (5, .sl 1 q4.2.length)] [.box 25 [.d (Sl (eN .i64) q4.1.L), I q4.1.v_at], .row 67 4 q4.2.length (q4.2.flatMap e_api_Probe)] ?_ ?_
  · refine go hΓ 1 rfl ?_
    refine j_rangeG h8 (fun i1 s2 => [(0, .ptr 0 0), (5, .sl 1 s2.2.length), (11, I many), (12, I (i1 : Int))]) (fun s2 => [.box 25 [.d (Sl (eN .i64) s2.1.L), I s2.1.v_at], .row 67 4 s2.2.length (s2.2.flatMap e_api_Probe)]) ⟨⟨rfl, rfl, rfl, rfl, trivial⟩, [], rfl, .inl rfl⟩ (fun i1 s2 y12 hlt hy10 => ?_) (fun hge => ?_)
    · refine go hΓ 6 rfl ?_
      refine j_condT rfl (decide_eq_true hlt) ?_
      refine go hΓ 12 rfl ?_
      refine eo_litT hΓ (enc := eS) [[110, 97], [110, 98]] rfl rfl rfl rfl rfl rfl rfl rfl rfl rfl rfl rfl (Nat.le_of_ble_eq_true rfl) ?_
      refine go_ops hΓ 4 rfl ?_
      obtain ⟨q16, hq16, h17⟩ := bi_ok hy10
      refine j_bound 15 rfl fun hb19 => ?_
      refine j_cutNZ [(0, .ptr 0 0), (5, .sl 1 q16.2.length), (11, I many), (12, I (i1 : Int))] [.box 25 [.d (Sl (eN .i64) q16.1.L), I q16.1.v_at], .row 67 4 q16.2.length (q16.2.flatMap e_api_Probe)] ?_ ?_
      · refine go hΓ 1 rfl ?_
        refine j_rangeF [[110, 97], [110, 98]] hq16 (fun i13 s14 => [(0, .ptr 0 0), (5, .sl 1 s14.2.length), (6, I (i1 : Int)), (11, I many), (12, I (i1 : Int)), (15, .d (Sl eS [[110, 97], [110, 98]])), (16, I ([[110, 97], [110, 98]].length : Int)), (17, I (i13 : Int))]) (fun s14 => [.box 25 [.d (Sl (eN .i64) s14.1.L), I s14.1.v_at], .row 67 4 s14.2.length (s14.2.flatMap e_api_Probe)]) ⟨⟨rfl, rfl, rfl, rfl, rfl, rfl, rfl, rfl, trivial⟩, [], rfl, .inl rfl⟩ (fun i13 x15 s14 y23 hx20 hlt hy21 => ?_) (?_)
        · refine go hΓ 6 rfl ?_
          refine j_condT rfl (decide_eq_true (Int.ofNat_lt.2 hlt)) ?_
          refine go hΓ 6 rfl ?_
          refine eo_o rfl (op_elemZ hΓ (enc := eS) (getZ_nat hx20) rfl rfl rfl rfl rfl (fun _ => rfl)) ?_
          refine go_ops hΓ 6 rfl ?_
          refine eo_litT hΓ (enc := eS) [[102, 114, 97], [108, 111, 110], [110, 121, 99]] rfl rfl rfl rfl rfl rfl rfl rfl rfl rfl rfl rfl (Nat.le_of_ble_eq_true rfl) ?_
          refine go_ops hΓ 4 rfl ?_
          obtain ⟨q27, hq27, h28⟩ := bi_ok hy21
          refine j_bound 21 rfl fun hb30 => ?_
          refine j_cutNZ [(0, .ptr 0 0), (5, .sl 1 q27.2.length), (6, I (i1 : Int)), (11, I many), (12, I (i1 : Int)), (15, .d (Sl eS [[110, 97], [110, 98]])), (16, I ([[110, 97], [110, 98]].length : Int)), (17, I (i13 : Int))] [.box 25 [.d (Sl (eN .i64) q27.1.L), I q27.1.v_at], .row 67 4 q27.2.length (q27.2.flatMap e_api_Probe)] ?_ ?_
          · refine go hΓ 1 rfl ?_
            refine j_rangeF [[102, 114, 97], [108, 111, 110], [110, 121, 99]] hq27 (fun i24 s25 => [(0, .ptr 0 0), (5, .sl 1 s25.2.length), (6, I (i1 : Int)), (8, S x15), (11, I many), (12, I (i1 : Int)), (15, .d (Sl eS [[110, 97], [110, 98]])), (16, I ([[110, 97], [110, 98]].length : Int)), (17, I (i13 : Int)), (21, .d (Sl eS [[102, 114, 97], [108, 111, 110], [110, 121, 99]])), (22, I ([[102, 114, 97], [108, 111, 110], [110, 121, 99]].length : Int)), (23, I (i24 : Int))]) (fun s25 => [.box 25 [.d (Sl (eN .i64) s25.1.L), I s25.1.v_at], .row 67 4 s25.2.length (s25.2.flatMap e_api_Probe)]) ⟨⟨rfl, rfl, rfl, rfl, rfl, rfl, rfl, rfl, rfl, rfl, rfl, rfl, trivial⟩, [], rfl, .inl rfl⟩ (fun i24 x26 s25 y34 hx31 hlt hy32 => ?_) (?_)
            · refine go hΓ 6 rfl ?_
              refine j_condT rfl (decide_eq_true (Int.ofNat_lt.2 hlt)) ?_
              refine go hΓ 6 rfl ?_
              refine eo_o rfl (op_elemZ hΓ (enc := eS) (getZ_nat hx31) rfl rfl rfl rfl rfl (fun _ => rfl)) ?_
              obtain ⟨y35, hy35, h36⟩ := bi_ok hy32
              refine go_ops hΓ 7 rfl ?_
              refine eo_callF [0] (B y35.1) [.box 25 [.d (Sl (eN .i64) y35.2.L), I y35.2.v_at], .row 67 4 s25.2.length (s25.2.flatMap e_api_Probe)] (callable Tryd.func37 rfl rfl) (c_lanemake_Stream_Flip hy35) rfl (Nat.le_of_ble_eq_true rfl) rfl rfl rfl rfl rfl rfl rfl rfl rfl rfl ?_
              refine go_ops hΓ 2 rfl ?_
              refine j_cond rfl (fun hb => ?_) (fun hb => ?_)
              · have h37 := cT h36 hb
                refine go hΓ 7 rfl ?_
                refine eo_litT hΓ (enc := (eN .i64)) [-1, 5, 10, 12, 20, 20, 25, 40] rfl rfl rfl rfl rfl rfl rfl rfl rfl rfl rfl rfl (Nat.le_of_ble_eq_true rfl) ?_
                obtain ⟨y38, hy38, h39⟩ := bi_ok h37
                refine eo_callF [0] (I y38.1) [.box 25 [.d (Sl (eN .i64) y38.2.L), I y38.2.v_at], .row 67 4 s25.2.length (s25.2.flatMap e_api_Probe)] (callable Tryd.func8 rfl rfl) (c_lanemake_Stream_Pick hy38) rfl (Nat.le_of_ble_eq_true rfl) rfl rfl rfl rfl rfl rfl rfl rfl rfl rfl ?_
                refine eo_build hΓ (gs := [I (wi (10 * (i1 : Int))), S x15, S x26, I y38.1]) rfl rfl rfl rfl rfl rfl rfl ?_
                refine eo_litT hΓ (enc := e_api_Probe) [(⟨wi (10 * (i1 : Int)), x15, x26, y38.1⟩ : T_api_Probe)] rfl rfl rfl rfl rfl rfl rfl rfl rfl rfl rfl rfl (Nat.le_of_ble_eq_true rfl) ?_
                obtain ⟨y40, hy40, h41⟩ := bi_ok h39
                refine eo_appendT hΓ (enc := e_api_Probe) hy40 rfl rfl rfl rfl rfl rfl rfl rfl rfl (fun _ => rfl) rfl rfl rfl rfl ?_
                refine go_ops hΓ 8 rfl ?_
                obtain rfl := Option.some.inj h41
                exact ⟨⟨rfl, rfl, rfl, rfl, rfl, rfl, rfl, rfl, rfl, rfl, rfl, get_eq rfl (w64_succ (Nat.lt_of_lt_of_le hlt hb30)), trivial⟩, [], rfl, .inl rfl⟩
              · have h42 := cF h36 hb
                refine go hΓ 7 rfl ?_
                obtain rfl := Option.some.inj h42
                exact ⟨⟨rfl, rfl, rfl, rfl, rfl, rfl, rfl, rfl, rfl, rfl, rfl, get_eq rfl (w64_succ (Nat.lt_of_lt_of_le hlt hb30)), trivial⟩, [], rfl, .inl rfl⟩
            · refine go hΓ 6 rfl ?_
              refine j_condF rfl (decide_eq_false (Int.lt_irrefl _)) ?_
              refine go hΓ 4 rfl ?_
              exact ⟨⟨rfl, rfl, rfl, rfl, rfl, rfl, rfl, rfl, trivial⟩, [], rfl, .inl rfl⟩
          · refine go hΓ 6 rfl ?_
            obtain rfl := Option.some.inj h28
            exact ⟨⟨rfl, rfl, rfl, rfl, rfl, rfl, rfl, get_eq rfl (w64_succ (Nat.lt_of_lt_of_le hlt hb19)), trivial⟩, [], rfl, .inl rfl⟩
        · refine go hΓ 6 rfl ?_
          refine j_condF rfl (decide_eq_false (Int.lt_irrefl _)) ?_
          refine go hΓ 4 rfl ?_
          exact ⟨⟨rfl, rfl, rfl, rfl, trivial⟩, [], rfl, .inl rfl⟩
      · refine go hΓ 6 rfl ?_
        obtain rfl := Option.some.inj h17
        exact ⟨⟨rfl, rfl, rfl, get_eq rfl (w64_succ (by omega)), trivial⟩, [], rfl, .inl rfl⟩
    · refine go hΓ 6 rfl ?_
      refine j_condF rfl (decide_eq_false hge) ?_
      refine go hΓ 4 rfl ?_
      exact ⟨⟨rfl, rfl, trivial⟩, [], rfl, .inl rfl⟩
  · obtain ⟨y43, hy43, h44⟩ := bi_ok h5
    refine go hΓ 5 rfl ?_
    refine eo_callF [0] (B y43.1) [.box 25 [.d (Sl (eN .i64) y43.2.L), I y43.2.v_at], .row 67 4 q4.2.length (q4.2.flatMap e_api_Probe)] (callable Tryd.func37 rfl rfl) (c_lanemake_Stream_Flip hy43) rfl (Nat.le_of_ble_eq_true rfl) rfl rfl rfl rfl rfl rfl rfl rfl rfl rfl ?_
    obtain ⟨q45, hq45, h46⟩ := bi_ok h44
    refine go_ops hΓ 2 rfl ?_
    refine j_cutNZ [(5, .sl 1 q45.2.length)] [.box 25 [.d (Sl (eN .i64) q45.1.L), I q45.1.v_at], .row 67 4 q45.2.length (q45.2.flatMap e_api_Probe)] ?_ ?_
    · refine j_cond rfl (fun hb => ?_) (fun hb => ?_)
      · have h47 := cT hq45 hb
        obtain ⟨y48, hy48, h49⟩ := bi_ok h47
        refine go hΓ 3 rfl ?_
        refine eo_callF [0] (I y48.1) [.box 25 [.d (Sl (eN .i64) y48.2.L), I y48.2.v_at], .row 67 4 q4.2.length (q4.2.flatMap e_api_Probe)] (callable Tryd.func38 rfl rfl) (c_lanemake_Stream_Odd hy48) rfl (Nat.le_of_ble_eq_true rfl) rfl rfl rfl rfl rfl rfl rfl rfl rfl rfl ?_
        refine go_ops hΓ 1 rfl ?_
        refine eo_litT hΓ (enc := eS) [[], [110, 97]] rfl rfl rfl rfl rfl rfl rfl rfl rfl rfl rfl rfl (Nat.le_of_ble_eq_true rfl) ?_
        obtain ⟨y50, hy50, h51⟩ := bi_ok h49
        refine eo_callF [0] (S y50.1) [.box 25 [.d (Sl (eN .i64) y50.2.L), I y50.2.v_at], .row 67 4 q4.2.length (q4.2.flatMap e_api_Probe)] (callable Tryd.func9 rfl rfl) (c_lanemake_Stream_Some hy50) rfl (Nat.le_of_ble_eq_true rfl) rfl rfl rfl rfl rfl rfl rfl rfl rfl rfl ?_
        refine go_ops hΓ 1 rfl ?_
        refine eo_litT hΓ (enc := eS) [[102, 114, 97], [65]] rfl rfl rfl rfl rfl rfl rfl rfl rfl rfl rfl rfl (Nat.le_of_ble_eq_true rfl) ?_
        obtain ⟨y52, hy52, h53⟩ := bi_ok h51
        refine eo_callF [0] (S y52.1) [.box 25 [.d (Sl (eN .i64) y52.2.L), I y52.2.v_at], .row 67 4 q4.2.length (q4.2.flatMap e_api_Probe)] (callable Tryd.func9 rfl rfl) (c_lanemake_Stream_Some hy52) rfl (Nat.le_of_ble_eq_true rfl) rfl rfl rfl rfl rfl rfl rfl rfl rfl rfl ?_
        obtain ⟨y54, hy54, h55⟩ := bi_ok h53
        refine go_ops hΓ 1 rfl ?_
        refine eo_callF [0] (I y54.1) [.box 25 [.d (Sl (eN .i64) y54.2.L), I y54.2.v_at], .row 67 4 q4.2.length (q4.2.flatMap e_api_Probe)] (callable Tryd.func38 rfl rfl) (c_lanemake_Stream_Odd hy54) rfl (Nat.le_of_ble_eq_true rfl) rfl rfl rfl rfl rfl rfl rfl rfl rfl rfl ?_
        refine eo_build hΓ (gs := [I y48.1, S y50.1, S y52.1, I y54.1]) rfl rfl rfl rfl rfl rfl rfl ?_
        refine eo_litT hΓ (enc := e_api_Probe) [(⟨y48.1, y50.1, y52.1, y54.1⟩ : T_api_Probe)] rfl rfl rfl rfl rfl rfl rfl rfl rfl rfl rfl rfl (Nat.le_of_ble_eq_true rfl) ?_
        obtain ⟨y56, hy56, h57⟩ := bi_ok h55
        refine eo_appendT hΓ (enc := e_api_Probe) hy56 rfl rfl rfl rfl rfl rfl rfl rfl rfl (fun _ => rfl) rfl rfl rfl rfl ?_
        refine go_ops hΓ 2 rfl ?_
        obtain rfl := Option.some.inj h57
        exact ⟨⟨rfl, trivial⟩, [], rfl, .inl rfl⟩
      · have h58 := cF hq45 hb
        refine go hΓ 1 rfl ?_
        obtain rfl := Option.some.inj h58
        exact ⟨⟨rfl, trivial⟩, [], rfl, .inl rfl⟩
    · refine go hΓ 8 rfl ?_
      refine cv_here ?_
      obtain rfl := Option.some.inj h46
      exact fin_objs hΓ [] (.inr rfl) rfl rfl rfl rfl (.inl rfl)
set_option maxHeartbeats 8000000 in
theorem c_kit_IsKey {k : Nat} {s : Str} {r : Bool} (h : m_kit_IsKey k s = some r) : Pure Tryd.prog 51 [S s] (B r) := by
  refine Pure.enter (Fr.of 0 _) Tryd.func51 rfl (Fr.of_ok _) rfl rfl ?_
  refine go_in ?_
  unfold m_kit_IsKey at h
  refine go hΓ 11 rfl ?_
  obtain ⟨q4, hq4, h5⟩ := bi_ok h
  refine j_cutEZ (R := fun a6 => q4 = .inl a6) (fun a6 => [(0, S s)]) (fun a6 => []) ?_ ?_
  · refine go hΓ 1 rfl ?_
    refine j_loop hq4 (fun s2 => [(0, S s), (3, I s2)]) (fun s2 => []) ⟨⟨rfl, rfl, trivial⟩, [], rfl, .inl rfl⟩ (fun s2 y10 hy8 hout9 => ?_)
    refine go hΓ 9 rfl ?_
    refine j_cond rfl (fun hb => ?_) (fun hb => ?_)
    · have h11 := cT hy8 hb
      obtain ⟨c12, hc12, h13⟩ := bi_ok h11
      refine go hΓ 8 rfl ?_
      refine eo_o rfl (op_byteZ hΓ hc12 rfl rfl rfl rfl) ?_
      refine go_ops hΓ 8 rfl ?_
      refine o_cut 3 [(0, S s), (3, I s2), (4, .d (.v (.int .u8 (c12.toNat : Int)))), (19, B ((decide (((c12.toNat : Int) : Int) ≥ 97)) && (decide (((c12.toNat : Int) : Int) ≤ 122))))] [] ?_ ?_
      · refine eo_gsplit rfl rfl (fun hb => ?_) (fun hb => ?_)
        · refine go_ops hΓ 4 rfl ?_
          exact ⟨⟨rfl, rfl, rfl, get_b rfl (and_t hb), trivial⟩, [], rfl, .inl rfl⟩
        · refine go_ops hΓ 4 rfl ?_
          exact ⟨⟨rfl, rfl, rfl, get_b rfl (and_f hb), trivial⟩, [], rfl, .inl rfl⟩
      · refine go_ops hΓ 1 rfl ?_
        refine o_cut 19 [(0, S s), (3, I s2), (39, B (((decide (((c12.toNat : Int) : Int) ≥ 97)) && (decide (((c12.toNat : Int) : Int) ≤ 122))) || ((decide ((s2 : Int) > 0)) && ((((decide (((c12.toNat : Int) : Int) ≥ 48)) && (decide (((c12.toNat : Int) : Int) ≤ 57))) || (((c12.toNat : Int) : Int) == 45)) || (((c12.toNat : Int) : Int) == 95)))))] [] ?_ ?_
        · refine eo_gsplit rfl rfl (fun hb => ?_) (fun hb => ?_)
          · refine go_ops hΓ 20 rfl ?_
            exact ⟨⟨rfl, rfl, get_b rfl (or_t hb), trivial⟩, [], rfl, .inl rfl⟩
          · refine go_ops hΓ 3 rfl ?_
            refine o_cut 15 [(0, S s), (3, I s2), (20, B false), (38, B ((decide ((s2 : Int) > 0)) && ((((decide (((c12.toNat : Int) : Int) ≥ 48)) && (decide (((c12.toNat : Int) : Int) ≤ 57))) || (((c12.toNat : Int) : Int) == 45)) || (((c12.toNat : Int) : Int) == 95))))] [] ?_ ?_
            · refine eo_gsplit rfl rfl (fun hb => ?_) (fun hb => ?_)
              · refine go_ops hΓ 3 rfl ?_
                refine o_cut 3 [(0, S s), (3, I s2), (4, .d (.v (.int .u8 (c12.toNat : Int)))), (20, B false), (23, B true), (29, B ((decide (((c12.toNat : Int) : Int) ≥ 48)) && (decide (((c12.toNat : Int) : Int) ≤ 57))))] [] ?_ ?_
                · refine eo_gsplit rfl rfl (fun hb => ?_) (fun hb => ?_)
                  · refine go_ops hΓ 4 rfl ?_
                    exact ⟨⟨rfl, rfl, rfl, rfl, rfl, get_b rfl (and_t hb), trivial⟩, [], rfl, .inl rfl⟩
                  · refine go_ops hΓ 4 rfl ?_
                    exact ⟨⟨rfl, rfl, rfl, rfl, rfl, get_b rfl (and_f hb), trivial⟩, [], rfl, .inl rfl⟩
                · refine go_ops hΓ 1 rfl ?_
                  refine o_cut 3 [(0, S s), (3, I s2), (4, .d (.v (.int .u8 (c12.toNat : Int)))), (20, B false), (23, B true), (33, B (((decide (((c12.toNat : Int) : Int) ≥ 48)) && (decide (((c12.toNat : Int) : Int) ≤ 57))) || (((c12.toNat : Int) : Int) == 45)))] [] ?_ ?_
                  · refine eo_gsplit rfl rfl (fun hb => ?_) (fun hb => ?_)
                    · refine go_ops hΓ 4 rfl ?_
                      exact ⟨⟨rfl, rfl, rfl, rfl, rfl, get_b rfl (or_t hb), trivial⟩, [], rfl, .inl rfl⟩
                    · refine go_ops hΓ 4 rfl ?_
                      exact ⟨⟨rfl, rfl, rfl, rfl, rfl, get_b rfl (or_f hb), trivial⟩, [], rfl, .inl rfl⟩
                  · refine go_ops hΓ 1 rfl ?_
                    refine o_cut 3 [(0, S s), (3, I s2), (20, B false), (23, B true), (37, B ((((decide (((c12.toNat : Int) : Int) ≥ 48)) && (decide (((c12.toNat : Int) : Int) ≤ 57))) || (((c12.toNat : Int) : Int) == 45)) || (((c12.toNat : Int) : Int) == 95)))] [] ?_ ?_
                    · refine eo_gsplit rfl rfl (fun hb => ?_) (fun hb => ?_)
                      · refine go_ops hΓ 4 rfl ?_
                        exact ⟨⟨rfl, rfl, rfl, rfl, get_b rfl (or_t hb), trivial⟩, [], rfl, .inl rfl⟩
                      · refine go_ops hΓ 4 rfl ?_
                        exact ⟨⟨rfl, rfl, rfl, rfl, get_b rfl (or_f hb), trivial⟩, [], rfl, .inl rfl⟩
                    · refine go_ops hΓ 2 rfl ?_
                      exact ⟨⟨rfl, rfl, rfl, get_b rfl (and_t hb), trivial⟩, [], rfl, .inl rfl⟩
              · refine go_ops hΓ 16 rfl ?_
                exact ⟨⟨rfl, rfl, rfl, get_b rfl (and_f hb), trivial⟩, [], rfl, .inl rfl⟩
            · refine go_ops hΓ 2 rfl ?_
              exact ⟨⟨rfl, rfl, get_b rfl (or_f hb), trivial⟩, [], rfl, .inl rfl⟩
        · refine go_ops hΓ 3 rfl ?_
          refine j_cond rfl (fun hb => ?_) (fun hb => ?_)
          · have h14 := cT h13 hb
            refine go hΓ 8 rfl ?_
            obtain ⟨v15, hv15, h16⟩ := bi_ok h14
            obtain rfl := Option.some.inj h16
            obtain rfl := hout9 _ rfl
            obtain rfl := Option.some.inj h5
            refine go hΓ 4 rfl ?_
            obtain rfl := Option.some.inj hv15
            exact fin_pure hΓ (.inr rfl) rfl rfl
          · have h17 := cF h13 hb
            refine go hΓ 8 rfl ?_
            obtain rfl := Option.some.inj h17
            exact ⟨_, rfl, ⟨⟨rfl, rfl, trivial⟩, [], rfl, .inl rfl⟩⟩
    · have h18 := cF hy8 hb
      refine go hΓ 4 rfl ?_
      obtain rfl := Option.some.inj h18
      obtain rfl := hout9 _ rfl
      exact ⟨_, rfl, ⟨⟨rfl, trivial⟩, [], rfl, .inl rfl⟩⟩
  · intro a6 ha
    subst ha
    replace h5 := orI_l h5
    refine go hΓ 6 rfl ?_
    refine o_cut 4 [(47, B ((!((s : Str) == [])) && (decide (((s.length : Int) : Int) ≤ 40))))] [] ?_ ?_
    · refine eo_gsplit rfl rfl (fun hb => ?_) (fun hb => ?_)
      · refine go_ops hΓ 5 rfl ?_
        exact ⟨⟨get_b rfl (and_t hb), trivial⟩, [], rfl, .inl rfl⟩
      · refine go_ops hΓ 5 rfl ?_
        exact ⟨⟨get_b rfl (and_f hb), trivial⟩, [], rfl, .inl rfl⟩
    · refine go_ops hΓ 4 rfl ?_
      obtain rfl := Option.some.inj h5
      exact fin_pure hΓ (.inr rfl) rfl rfl
theorem c_kit_Outside {n : Int} {low : Int} {high : Int} {r : Bool} (h : m_kit_Outside n low high = some r) : Pure Tryd.prog 52 [I n, I low, I high] (B r) := by
  refine Pure.enter (Fr.of 0 _) Tryd.func52 rfl (Fr.of_ok _) rfl rfl ?_
  refine go_in ?_
  unfold m_kit_Outside at h
  refine go hΓ 11 rfl ?_
  refine o_cut 4 [(6, B false), (14, B ((decide ((n : Int) < low)) || (decide ((n : Int) > high))))] [] ?_ ?_
  · refine eo_gsplit rfl rfl (fun hb => ?_) (fun hb => ?_)
    · refine go_ops hΓ 5 rfl ?_
      exact ⟨⟨rfl, get_b rfl (or_t hb), trivial⟩, [], rfl, .inl rfl⟩
    · refine go_ops hΓ 5 rfl ?_
      exact ⟨⟨rfl, get_b rfl (or_f hb), trivial⟩, [], rfl, .inl rfl⟩
  · refine go_ops hΓ 4 rfl ?_
    obtain rfl := Option.some.inj h
    exact fin_pure hΓ (.inr rfl) rfl rfl
theorem c_cmp_Or_int {vals : List Int} {r : Int} (h : m_cmp_Or_int vals = some r) : Pure Tryd.prog 47 [.d (Sl (eN .i64) vals)] (I r) := by
  refine Pure.enter (Fr.of 0 _) Tryd.func47 rfl (Fr.of_ok _) rfl rfl ?_
  refine go_in ?_
  unfold m_cmp_Or_int at h
  refine go hΓ 18 rfl ?_
  obtain ⟨q4, hq4, h5⟩ := bi_ok h
  refine j_bound 6 rfl fun hb7 => ?_
  refine j_cutEZ (R := fun a6 => q4 = .go a6) (fun a6 => [(3, I 0)]) (fun a6 => []) ?_ ?_
  · refine go hΓ 1 rfl ?_
    refine j_range vals hq4 (fun i1 s2 => [(3, I 0), (6, .d (Sl (eN .i64) vals)), (7, I (vals.length : Int)), (8, I (i1 : Int))]) (fun s2 => []) ⟨⟨rfl, rfl, rfl, rfl, trivial⟩, [], rfl, .inl rfl⟩ (fun i1 x3 s2 y11 hx8 hlt hy9 hout10 => ?_) (fun s2 hgo => ?_)
    · refine go hΓ 6 rfl ?_
      refine j_condT rfl (decide_eq_true (Int.ofNat_lt.2 hlt)) ?_
      refine go hΓ 6 rfl ?_
      refine eo_o rfl (op_elemZ hΓ (enc := (eN .i64)) (getZ_nat hx8) rfl rfl rfl rfl rfl (fun _ => rfl)) ?_
      refine go_ops hΓ 11 rfl ?_
      refine j_cond rfl (fun hb => ?_) (fun hb => ?_)
      · have h12 := cT hy9 hb
        refine go hΓ 9 rfl ?_
        obtain ⟨v13, hv13, h14⟩ := bi_ok h12
        obtain rfl := Option.some.inj h14
        obtain rfl := hout10 _ rfl
        obtain rfl := Option.some.inj h5
        refine go hΓ 4 rfl ?_
        obtain rfl := Option.some.inj hv13
        exact fin_pure hΓ (.inr rfl) rfl rfl
      · have h15 := cF hy9 hb
        refine go hΓ 7 rfl ?_
        obtain rfl := Option.some.inj h15
        exact ⟨_, rfl, ⟨⟨rfl, rfl, rfl, get_eq rfl (w64_succ (Nat.lt_of_lt_of_le hlt hb7)), trivial⟩, [], rfl, .inl rfl⟩⟩
    · subst hgo
      refine go hΓ 6 rfl ?_
      refine j_condF rfl (decide_eq_false (Int.lt_irrefl _)) ?_
      refine go hΓ 4 rfl ?_
      exact ⟨_, rfl, ⟨⟨rfl, trivial⟩, [], rfl, .inl rfl⟩⟩
  · intro a6 ha
    subst ha
    replace h5 := goI_l h5
    refine go hΓ 8 rfl ?_
    obtain rfl := Option.some.inj h5
    exact fin_pure hΓ (.inr rfl) rfl rfl
set_option maxHeartbeats 8000000 in
theorem c_route_CheckLinks {k : Nat} {l : List T_api_Link} {r : Int} (h : m_route_CheckLinks k l = some r) : Pure Tryd.prog 26 [.d (Sl e_api_Link l)] (I r) := by
  refine Pure.enter (Fr.of 0 _) Tryd.func26 rfl (Fr.of_ok _) rfl rfl ?_
  refine go_in ?_
  unfold m_route_CheckLinks at h
  refine go hΓ 13 rfl ?_
  refine j_cond rfl (fun hb => ?_) (fun hb => ?_)
  · have h1 := cT h hb
    refine go hΓ 7 rfl ?_
    obtain rfl := Option.some.inj h1
    exact fin_pure hΓ (.inr rfl) rfl rfl
  · have h2 := cF h hb
    refine go hΓ 10 rfl ?_
    obtain ⟨q6, hq6, h7⟩ := bi_ok h2
    refine j_bound 0 rfl fun hb9 => ?_
    refine j_cutEZ (R := fun a8 => q6 = .go a8) (fun a8 => []) (fun a8 => []) ?_ ?_
    · refine go hΓ 1 rfl ?_
      refine j_range l hq6 (fun i3 s4 => [(0, .d (Sl e_api_Link l)), (8, .d (Sl e_api_Link l)), (9, I (l.length : Int)), (10, I (i3 : Int))]) (fun s4 => []) ⟨⟨rfl, rfl, rfl, rfl, trivial⟩, [], rfl, .inl rfl⟩ (fun i3 x5 s4 y13 hx10 hlt hy11 hout12 => ?_) (fun s4 hgo => ?_)
      · refine go hΓ 6 rfl ?_
        refine j_condT rfl (decide_eq_true (Int.ofNat_lt.2 hlt)) ?_
        refine go hΓ 7 rfl ?_
        refine eo_o rfl (op_elemZ hΓ (enc := e_api_Link) (getZ_nat hx10) rfl rfl rfl rfl rfl (fun _ => rfl)) ?_
        refine go_ops hΓ 1 rfl ?_
        refine eo_alloc hΓ rfl rfl rfl (Nat.le_of_ble_eq_true rfl) ?_
        refine go_ops hΓ 1 rfl ?_
        refine eo_store hΓ rfl rfl rfl rfl rfl rfl rfl rfl (Nat.le_of_ble_eq_true rfl) ?_
        refine eo_hp [.box 80 [S x5.A, S x5.v_B, I x5.Millis]] rfl ?_
        obtain ⟨y14, hy14, h15⟩ := bi_ok hy11
        refine go_ops hΓ 7 rfl ?_
        refine eo_callP (callable Tryd.func51 rfl rfl) (c_kit_IsKey hy14) rfl (Nat.le_of_ble_eq_true rfl) rfl rfl rfl rfl rfl ?_
        refine go_ops hΓ 2 rfl ?_
        obtain ⟨q16, hq16, h17⟩ := bi_ok h15
        refine o_cut 5 [(0, .d (Sl e_api_Link l)), (3, I (i3 : Int)), (4, .ptr 0 0), (8, .d (Sl e_api_Link l)), (9, I (l.length : Int)), (10, I (i3 : Int)), (25, B q16)] [.box 80 [S x5.A, S x5.v_B, I x5.Millis]] ?_ ?_
        · refine eo_gsplit rfl rfl (fun hb => ?_) (fun hb => ?_)
          · have h18 := cT hq16 hb
            refine go_ops hΓ 6 rfl ?_
            obtain rfl := Option.some.inj h18
            exact ⟨⟨rfl, rfl, rfl, rfl, rfl, rfl, rfl, trivial⟩, [], rfl, .inl rfl⟩
          · have h19 := cF hq16 hb
            obtain ⟨y20, hy20, h21⟩ := bi_ok h19
            refine go_ops hΓ 2 rfl ?_
            refine eo_guard rfl ?_
            refine eo_callP (callable Tryd.func51 rfl rfl) (c_kit_IsKey hy20) rfl (Nat.le_of_ble_eq_true rfl) rfl rfl rfl rfl rfl ?_
            refine go_ops hΓ 3 rfl ?_
            obtain rfl := Option.some.inj h21
            exact ⟨⟨rfl, rfl, rfl, rfl, rfl, rfl, rfl, trivial⟩, [], rfl, .inl rfl⟩
        · refine go_ops hΓ 3 rfl ?_
          refine j_cond rfl (fun hb => ?_) (fun hb => ?_)
          · have h22 := cT h17 hb
            refine go hΓ 9 rfl ?_
            obtain ⟨v23, hv23, h24⟩ := bi_ok h22
            obtain rfl := Option.some.inj h24
            obtain rfl := hout12 _ rfl
            obtain rfl := Option.some.inj h7
            refine go hΓ 4 rfl ?_
            obtain rfl := Option.some.inj hv23
            exact fin_pure hΓ (.inr rfl) rfl rfl
          · have h25 := cF h17 hb
            refine go hΓ 10 rfl ?_
            refine j_cond rfl (fun hb => ?_) (fun hb => ?_)
            · have h26 := cT h25 hb
              refine go hΓ 9 rfl ?_
              obtain ⟨v27, hv27, h28⟩ := bi_ok h26
              obtain rfl := Option.some.inj h28
              obtain rfl := hout12 _ rfl
              obtain rfl := Option.some.inj h7
              refine go hΓ 4 rfl ?_
              obtain rfl := Option.some.inj hv27
              exact fin_pure hΓ (.inr rfl) rfl rfl
            · have h29 := cF h25 hb
              obtain ⟨y30, hy30, h31⟩ := bi_ok h29
              refine go hΓ 4 rfl ?_
              refine eo_callP (callable Tryd.func52 rfl rfl) (c_kit_Outside hy30) rfl (Nat.le_of_ble_eq_true rfl) rfl rfl rfl rfl rfl ?_
              refine go_ops hΓ 3 rfl ?_
              refine j_cond rfl (fun hb => ?_) (fun hb => ?_)
              · have h32 := cT h31 hb
                refine go hΓ 9 rfl ?_
                obtain ⟨v33, hv33, h34⟩ := bi_ok h32
                obtain rfl := Option.some.inj h34
                obtain rfl := hout12 _ rfl
                obtain rfl := Option.some.inj h7
                refine go hΓ 4 rfl ?_
                obtain rfl := Option.some.inj hv33
                exact fin_pure hΓ (.inr rfl) rfl rfl
              · have h35 := cF h31 hb
                obtain ⟨q36, hq36, h37⟩ := bi_ok h35
                refine go hΓ 1 rfl ?_
                refine j_cutNZ [(0, .d (Sl e_api_Link l)), (8, .d (Sl e_api_Link l)), (9, I (l.length : Int)), (10, I (i3 : Int)), (36, B q36)] [.box 80 [S x5.A, S x5.v_B, I x5.Millis]] ?_ ?_
                · refine j_drawE [.box 80 [S x5.A, S x5.v_B, I x5.Millis]] [10, 19] [] [] hmix (by kernel_rfl) (by kernel_rfl) ⟨rfl, trivial⟩ (Nat.le_of_ble_eq_true rfl) ?_
                  refine go_E hΓ 3 rfl ?_
                  refine ge_gsplit rfl rfl (fun hb => ?_) (fun hb => ?_)
                  · have h38 := cT hq36 hb
                    obtain ⟨x39, hx39, h40⟩ := bi_ok h38
                    refine go_E hΓ 3 rfl ?_
                    refine ge_q rfl (.inr ⟨_, _, rfl, rfl⟩) (fun _ _ => qte_of_qt (qt_p (op_elemZ hΓ (enc := e_api_Link) hx39 rfl rfl rfl rfl rfl (fun _ => rfl)))) ?_
                    obtain ⟨y41, hy41, h42⟩ := bi_ok h40
                    refine go_E hΓ 4 rfl ?_
                    refine ge_callPg rfl (callable Tryd.func49 rfl rfl) (c_strings_Compare hy41) rfl rfl rfl rfl rfl rfl ?_
                    obtain ⟨x43, hx43, h44⟩ := bi_ok h42
                    refine go_E hΓ 3 rfl ?_
                    refine ge_q rfl (.inr ⟨_, _, rfl, rfl⟩) (fun _ _ => qte_of_qt (qt_p (op_elemZ hΓ (enc := e_api_Link) hx43 rfl rfl rfl rfl rfl (fun _ => rfl)))) ?_
                    obtain ⟨y45, hy45, h46⟩ := bi_ok h44
                    refine go_E hΓ 4 rfl ?_
                    refine ge_callPg rfl (callable Tryd.func49 rfl rfl) (c_strings_Compare hy45) rfl rfl rfl rfl rfl rfl ?_
                    refine ge_litTg hΓ (enc := (eN .i64)) [y41, y45] rfl rfl rfl rfl rfl rfl rfl rfl rfl rfl rfl rfl rfl ?_
                    obtain ⟨y47, hy47, h48⟩ := bi_ok h46
                    refine ge_callPg rfl (callable Tryd.func47 rfl rfl) (c_cmp_Or_int hy47) rfl rfl rfl rfl rfl rfl ?_
                    refine go_E hΓ 3 rfl ?_
                    refine ge_fin ?_
                    obtain rfl := Option.some.inj h48
                    exact ⟨⟨rfl, rfl, rfl, rfl, rfl, trivial⟩, [], rfl, .inl rfl⟩
                  · have h49 := cF hq36 hb
                    refine go_E hΓ 23 rfl ?_
                    refine ge_fin ?_
                    obtain rfl := Option.some.inj h49
                    exact ⟨⟨rfl, rfl, rfl, rfl, rfl, trivial⟩, [], rfl, .inl rfl⟩
                · refine go hΓ 1 rfl ?_
                  refine j_cond rfl (fun hb => ?_) (fun hb => ?_)
                  · have h50 := cT h37 hb
                    refine go hΓ 9 rfl ?_
                    obtain ⟨v51, hv51, h52⟩ := bi_ok h50
                    obtain rfl := Option.some.inj h52
                    obtain rfl := hout12 _ rfl
                    obtain rfl := Option.some.inj h7
                    refine go hΓ 4 rfl ?_
                    obtain rfl := Option.some.inj hv51
                    exact fin_pure hΓ (.inr rfl) rfl rfl
                  · have h53 := cF h37 hb
                    refine go hΓ 8 rfl ?_
                    obtain rfl := Option.some.inj h53
                    exact ⟨_, rfl, ⟨⟨rfl, rfl, rfl, get_eq rfl (w64_succ (Nat.lt_of_lt_of_le hlt hb9)), trivial⟩, [_], rfl, .inr ⟨HB.mk rfl, FB.mk rfl, (Nat.le_of_ble_eq_true rfl)⟩⟩⟩
      · subst hgo
        refine go hΓ 6 rfl ?_
        refine j_condF rfl (decide_eq_false (Int.lt_irrefl _)) ?_
        refine go hΓ 4 rfl ?_
        exact ⟨_, rfl, ⟨trivial, [], rfl, .inl rfl⟩⟩
    · intro a8 ha
      subst ha
      replace h7 := goI_l h7
      refine go hΓ 7 rfl ?_
      obtain rfl := Option.some.inj h7
      exact fin_pure hΓ (.inr rfl) rfl rfl
theorem c_route_stepsOf {l : List T_api_Link} {al : BagT} {r : (List (Str × (Tl T_route_step))) × BagT} (h : m_route_stepsOf l al = some r) : EC Tryd.prog 76 [.d (Sl e_api_Link l)] [.bag al.1 (arX al.2) []] fun g hp' => g = .map 1 ∧ hp' = [.bag r.2.1 (arX r.2.2) [], mOb kS false (eT 112 2 e_route_step) r.1] := by
  refine ec_enterC (Fr.of 0 _) Tryd.func76 rfl (Fr.of_ok _) (Nat.le_of_ble_eq_true rfl) fun _ => ?_
  refine go_in ?_
  unfold m_route_stepsOf at h
  refine go hΓ 7 rfl ?_
  refine eo_s (Nat.le_of_ble_eq_true rfl) (nblt.1 rfl) (ops_makeMap false) ?_
  refine eo_hp [.bag al.1 (arX al.2) [], mOb kS false (eT 112 2 e_route_step) ([] : List (Str × (Tl T_route_step)))] rfl ?_
  refine go_ops hΓ 11 rfl ?_
  obtain ⟨q4, hq4, h5⟩ := bi_ok h
  refine j_bound 7 rfl fun hb7 => ?_
  refine j_cutNZ [(3, .map 1)] [.bag q4.1.1 (arX q4.1.2) [], mOb kS false (eT 112 2 e_route_step) q4.2] ?_ ?_
  · refine go hΓ 1 rfl ?_
    refine j_rangeF l hq4 (fun i1 s2 => [(3, .map 1), (7, .d (Sl e_api_Link l)), (8, I (l.length : Int)), (9, I (i1 : Int))]) (fun s2 => [.bag s2.1.1 (arX s2.1.2) [], mOb kS false (eT 112 2 e_route_step) s2.2]) ⟨⟨rfl, rfl, rfl, rfl, trivial⟩, [], rfl, .inl rfl⟩ (fun i1 x3 s2 y11 hx8 hlt hy9 => ?_) (?_)
    · refine go hΓ 6 rfl ?_
      refine j_condT rfl (decide_eq_true (Int.ofNat_lt.2 hlt)) ?_
      refine go hΓ 6 rfl ?_
      refine eo_o rfl (op_elemZ hΓ (enc := e_api_Link) (getZ_nat hx8) rfl rfl rfl rfl rfl (fun _ => rfl)) ?_
      refine go_ops hΓ 1 rfl ?_
      refine eo_alloc hΓ rfl rfl rfl (Nat.le_of_ble_eq_true rfl) ?_
      refine eo_store hΓ rfl rfl rfl rfl rfl rfl rfl rfl (Nat.le_of_ble_eq_true rfl) ?_
      refine eo_hp [.bag s2.1.1 (arX s2.1.2) [], mOb kS false (eT 112 2 e_route_step) s2.2, .box 80 [S x3.A, S x3.v_B, I x3.Millis]] rfl ?_
      refine go_ops hΓ 3 rfl ?_
      refine j_drawE [.dead, mOb kS false (eT 112 2 e_route_step) s2.2, .box 80 [S x3.A, S x3.v_B, I x3.Millis]] [2, 5, 6, 8, 10] [13, 14] [14] hmix (by kernel_rfl) (by kernel_rfl) ⟨rfl, rfl, trivial⟩ (Nat.le_of_ble_eq_true rfl) ?_
      refine go_E hΓ 6 rfl ?_
      refine ge_p rfl (fun hp hs => op_lookupT hΓ (kv := kS) (te := 112) (sz := 2) (enc := e_route_step) s2.2 x3.A rfl rfl rfl rfl key_str rfl (hs 1 _ rfl rfl) rfl rfl rfl) rfl ?_
      refine go_E hΓ 4 rfl ?_
      refine ge_q rfl (.inl rfl) (fun _ _ => qte_of_qt (qt_p (op_build hΓ (gs := [S x3.v_B, I x3.Millis]) rfl rfl rfl rfl rfl rfl))) ?_
      refine ge_litT hΓ (enc := e_route_step) [(⟨x3.v_B, x3.Millis⟩ : T_route_step)] rfl rfl rfl rfl rfl rfl rfl rfl rfl rfl rfl rfl ?_
      obtain ⟨y12, hy12, h13⟩ := bi_ok hy9
      refine ge_h [.bag y12.2 (arX s2.1.2) [], mOb kS false (eT 112 2 e_route_step) s2.2, .box 80 [S x3.A, S x3.v_B, I x3.Millis]] rfl rfl rfl (st_st ⟨rfl, rfl, trivial⟩) (qte_s (ops_appT hΓ (enc := e_route_step) (bg := 0) hy12 rfl rfl rfl rfl rfl rfl rfl rfl (fun _ => rfl) rfl rfl)) ?_
      refine ge_h0 [.bag y12.2 (arX s2.1.2) [], mOb kS false (eT 112 2 e_route_step) (mSet s2.2 x3.A y12.1), .box 80 [S x3.A, S x3.v_B, I x3.Millis]] rfl rfl (brk_st rfl) (qte_u (opu_mapUpdate hΓ (kv := kS) (agg := false) (enc := (eT 112 2 e_route_step)) (id := 1) s2.2 x3.A y12.1 rfl rfl rfl key_str rfl rfl rfl rfl rfl)) ?_
      refine ge_fin ?_
      refine go hΓ 1 rfl ?_
      refine j_drawE [.dead, mOb kS false (eT 112 2 e_route_step) (mSet s2.2 x3.A y12.1), .box 80 [S x3.A, S x3.v_B, I x3.Millis]] [2, 5, 6, 8, 10] [13, 14] [14] hmix (by kernel_rfl) (by kernel_rfl) ⟨rfl, rfl, trivial⟩ (Nat.le_of_ble_eq_true rfl) ?_
      refine go_E hΓ 6 rfl ?_
      refine ge_p rfl (fun hp hs => op_lookupT hΓ (kv := kS) (te := 112) (sz := 2) (enc := e_route_step) (mSet s2.2 x3.A y12.1) x3.v_B rfl rfl rfl rfl key_str rfl (hs 1 _ rfl rfl) rfl rfl rfl) rfl ?_
      refine go_E hΓ 4 rfl ?_
      refine ge_q rfl (.inl rfl) (fun _ _ => qte_of_qt (qt_p (op_build hΓ (gs := [S x3.A, I x3.Millis]) rfl rfl rfl rfl rfl rfl))) ?_
      refine ge_litT hΓ (enc := e_route_step) [(⟨x3.A, x3.Millis⟩ : T_route_step)] rfl rfl rfl rfl rfl rfl rfl rfl rfl rfl rfl rfl ?_
      obtain ⟨y14, hy14, h15⟩ := bi_ok h13
      refine ge_h [.bag y14.2 (arX s2.1.2) [], mOb kS false (eT 112 2 e_route_step) (mSet s2.2 x3.A y12.1), .box 80 [S x3.A, S x3.v_B, I x3.Millis]] rfl rfl rfl (st_st ⟨rfl, rfl, trivial⟩) (qte_s (ops_appT hΓ (enc := e_route_step) (bg := 0) hy14 rfl rfl rfl rfl rfl rfl rfl rfl (fun _ => rfl) rfl rfl)) ?_
      refine ge_h0 [.bag y14.2 (arX s2.1.2) [], mOb kS false (eT 112 2 e_route_step) (mSet (mSet s2.2 x3.A y12.1) x3.v_B y14.1), .box 80 [S x3.A, S x3.v_B, I x3.Millis]] rfl rfl (brk_st rfl) (qte_u (opu_mapUpdate hΓ (kv := kS) (agg := false) (enc := (eT 112 2 e_route_step)) (id := 1) (mSet s2.2 x3.A y12.1) x3.v_B y14.1 rfl rfl rfl key_str rfl rfl rfl rfl rfl)) ?_
      refine ge_fin ?_
      refine go hΓ 6 rfl ?_
      obtain rfl := Option.some.inj h15
      exact ⟨⟨rfl, rfl, rfl, get_eq rfl (w64_succ (Nat.lt_of_lt_of_le hlt hb7)), trivial⟩, [_], rfl, .inr ⟨HB.mk rfl, FB.mk rfl, (Nat.le_of_ble_eq_true rfl)⟩⟩
    · refine go hΓ 6 rfl ?_
      refine j_condF rfl (decide_eq_false (Int.lt_irrefl _)) ?_
      refine go hΓ 4 rfl ?_
      exact ⟨⟨rfl, trivial⟩, [], rfl, .inl rfl⟩
  · refine go hΓ 8 rfl ?_
    refine cv_here ?_
    obtain rfl := Option.some.inj h5
    exact fin_objs hΓ [] (.inr rfl) rfl rfl rfl rfl (.inl rfl)
theorem c_route_far_less {a : T_route_far} {b : T_route_far} {r : Bool} (h : m_route_far_less a b = some r) : Pure Tryd.prog 85 [.agg [I a.millis, I a.links], .agg [I b.millis, I b.links]] (B r) := by
  refine Pure.enter (Fr.of 0 _) Tryd.func85 rfl (Fr.of_ok _) rfl rfl ?_
  refine go_in ?_
  unfold m_route_far_less at h
  refine go hΓ 2 rfl ?_
  refine eo_box rfl rfl rfl rfl (Nat.le_of_ble_eq_true rfl) ?_
  refine eo_box rfl rfl rfl rfl (Nat.le_of_ble_eq_true rfl) ?_
  refine go_ops hΓ 11 rfl ?_
  refine o_cut 13 [(4, B false), (23, B ((decide ((a.millis : Int) < b.millis)) || (((a.millis : Int) == b.millis) && (decide ((a.links : Int) < b.links)))))] [.box 108 [I a.millis, I a.links], .box 108 [I b.millis, I b.links]] ?_ ?_
  · refine eo_gsplit rfl rfl (fun hb => ?_) (fun hb => ?_)
    · refine go_ops hΓ 14 rfl ?_
      exact ⟨⟨rfl, get_b rfl (or_t hb), trivial⟩, [], rfl, .inl rfl⟩
    · refine go_ops hΓ 6 rfl ?_
      refine o_cut 6 [(4, B false), (10, B false), (22, B (((a.millis : Int) == b.millis) && (decide ((a.links : Int) < b.links))))] [.box 108 [I a.millis, I a.links], .box 108 [I b.millis, I b.links]] ?_ ?_
      · refine eo_gsplit rfl rfl (fun hb => ?_) (fun hb => ?_)
        · refine go_ops hΓ 7 rfl ?_
          exact ⟨⟨rfl, rfl, get_b rfl (and_t hb), trivial⟩, [], rfl, .inl rfl⟩
        · refine go_ops hΓ 7 rfl ?_
          exact ⟨⟨rfl, rfl, get_b rfl (and_f hb), trivial⟩, [], rfl, .inl rfl⟩
      · refine go_ops hΓ 2 rfl ?_
        exact ⟨⟨rfl, get_b rfl (or_f hb), trivial⟩, [], rfl, .inl rfl⟩
  · refine go_ops hΓ 4 rfl ?_
    obtain rfl := Option.some.inj h
    exact fin_pure hΓ (.inr rfl) rfl rfl
set_option maxHeartbeats 8000000 in
theorem c_route_distances {k : Nat} {steps : List (Str × (Tl T_route_step))} {v_from : Str} {r : List (Str × T_route_far)} (h : m_route_distances k steps v_from = some r) : EC Tryd.prog 77 [.map 0, S v_from] [mOb kS false (eT 112 2 e_route_step) steps] fun g hp' => g = .map 1 ∧ hp' = [mOb kS false (eT 112 2 e_route_step) steps, mOb kS true e_route_far r] := by
  refine ec_enterC (Fr.of 0 _) Tryd.func77 rfl (Fr.of_ok _) (Nat.le_of_ble_eq_true rfl) fun _ => ?_
  refine go_in ?_
  unfold m_route_distances at h
  refine go hΓ 7 rfl ?_
  refine eo_s (Nat.le_of_ble_eq_true rfl) (nblt.1 rfl) (ops_makeMap true) ?_
  refine eo_hp [mOb kS false (eT 112 2 e_route_step) steps, mOb kS true e_route_far ([] : List (Str × T_route_far))] rfl ?_
  refine go_ops hΓ 1 rfl ?_
  refine eo_build hΓ (gs := [I 0, I 0]) rfl rfl rfl rfl rfl rfl rfl ?_
  refine eo_u (Nat.le_of_ble_eq_true rfl) (opu_insert hΓ (kv := kS) (agg := true) (enc := e_route_far) (id := 1) ([] : List (Str × T_route_far)) v_from (⟨0, 0⟩ : T_route_far) rfl rfl rfl key_str rfl rfl rfl rfl rfl) ?_
  refine eo_hp [mOb kS false (eT 112 2 e_route_step) steps, mOb kS true e_route_far (mSet ([] : List (Str × T_route_far)) v_from (⟨0, 0⟩ : T_route_far))] rfl ?_
  refine go_ops hΓ 6 rfl ?_
  refine eo_s (Nat.le_of_ble_eq_true rfl) (nblt.1 rfl) (ops_makeMap false) ?_
  refine eo_hp [mOb kS false (eT 112 2 e_route_step) steps, mOb kS true e_route_far (mSet ([] : List (Str × T_route_far)) v_from (⟨0, 0⟩ : T_route_far)), mOb kS false eB ([] : List (Str × Bool))] rfl ?_
  refine go_ops hΓ 3 rfl ?_
  obtain ⟨q4, hq4, h5⟩ := bi_ok h
  refine go hΓ 1 rfl ?_
  refine j_loopD hq4 (fun s2 => [(0, .map 0), (5, .map 1), (6, .map 2)]) (fun s2 => [mOb kS false (eT 112 2 e_route_step) steps, mOb kS true e_route_far s2.1, mOb kS false eB s2.2]) ⟨⟨rfl, rfl, rfl, trivial⟩, [], rfl, .inl rfl⟩ (fun s2 Cn13 hy8 hCo11 => ?_)
  refine go hΓ 11 rfl ?_
  refine eo_range hΓ (kv := kS) (agg := true) (enc := e_route_far) s2.1 rfl rfl rfl rfl rfl (Nat.le_of_ble_eq_true rfl) (fun mr14 bs15 cl16 hpm17 hbl18 hbn19 => ?_)
  refine eo_hp [mOb kS false (eT 112 2 e_route_step) steps, mObS kS true e_route_far s2.1 (rawM kS e_route_far mr14 bs15 cl16), mOb kS false eB s2.2, .iter 1 cl16 []] rfl ?_
  refine go_ops hΓ 2 rfl ?_
  refine go hΓ 1 rfl ?_
  refine j_rangeW hy8 hpm17 hbl18 hbn19 (fun s20 => [(0, .map 0), (5, .map 1), (6, .map 2), (7, S s20.1), (8, B s20.2), (22, .ptr 3 0)]) (fun sn22 s20 => [mOb kS false (eT 112 2 e_route_step) steps, mObS kS true e_route_far s2.1 (rawM kS e_route_far mr14 bs15 cl16), mOb kS false eB s2.2, .iter 1 cl16 sn22]) ⟨⟨rfl, rfl, rfl, rfl, rfl, rfl, trivial⟩, [], rfl, .inl rfl⟩ (fun sn22 s20 hdone25 hstep26 => ?_)
  refine go hΓ 2 rfl ?_
  refine eo_next (kv := kS) (agg := true) (enc := e_route_far) s2.1 mr14 bs15 cl16 sn22 [mOb kS false (eT 112 2 e_route_step) steps, mOb kS true e_route_far s2.1, mOb kS false eB s2.2, .dead] rfl rfl rfl rfl rfl (Nat.le_of_ble_eq_true rfl) (fun hdsn22 => ?_) (fun j23 x21 b24 hjsn22 hbsn22 hnsn22 => ?_)
  · obtain ⟨x27, hx28, hC12⟩ := hdone25 hdsn22
    have hout9 : ∀ r', x27 = .out r' → q4 = r' := fun r' e => by subst e; exact hCo11 _ hC12
    refine go_ops hΓ 17 rfl ?_
    refine j_cond rfl (fun hb => ?_) (fun hb => ?_)
    · have h29 := cT hx28 hb
      refine go hΓ 9 rfl ?_
      obtain ⟨v30, hv30, h31⟩ := bi_ok h29
      obtain rfl := Option.some.inj h31
      obtain rfl := hout9 _ rfl
      obtain rfl := Option.some.inj h5
      refine go hΓ 2 rfl ?_
      refine cv_here ?_
      obtain rfl := Option.some.inj hv30
      exact fin_objs hΓ [_, _] (.inr rfl) rfl rfl rfl rfl (.inr ⟨HB.mk rfl, rfl⟩)
    · have h32 := cF hx28 hb
      refine go hΓ 6 rfl ?_
      refine eo_u (Nat.le_of_ble_eq_true rfl) (opu_mapUpdate hΓ (kv := kS) (agg := false) (enc := eB) (id := 2) s2.2 s20.1 true rfl rfl rfl key_str rfl rfl rfl rfl rfl) ?_
      refine eo_hp [mOb kS false (eT 112 2 e_route_step) steps, mOb kS true e_route_far s2.1, mOb kS false eB (mSet s2.2 s20.1 true), .dead] rfl ?_
      refine go_ops hΓ 6 rfl ?_
      refine eo_o rfl (op_le (op_lookupT hΓ (kv := kS) (te := 112) (sz := 2) (enc := e_route_step) steps s20.1 rfl rfl rfl rfl key_str rfl rfl rfl rfl rfl) G.Le.unt) ?_
      refine go_ops hΓ 4 rfl ?_
      obtain ⟨q36, hq36, h37⟩ := bi_ok h32
      refine j_bound 51 rfl fun hb39 => ?_
      refine j_cutNZ [(0, .map 0), (5, .map 1), (6, .map 2)] [mOb kS false (eT 112 2 e_route_step) steps, mOb kS true e_route_far q36, mOb kS false eB (mSet s2.2 s20.1 true), .dead] ?_ ?_
      · refine go hΓ 1 rfl ?_
        refine j_rangeF (((mGet steps s20.1).getD (1, [])).2) hq36 (fun i33 s34 => [(0, .map 0), (5, .map 1), (6, .map 2), (7, S s20.1), (51, .d (Sl e_route_step (((mGet steps s20.1).getD (1, [])).2))), (52, I ((((mGet steps s20.1).getD (1, [])).2).length : Int)), (53, I (i33 : Int))]) (fun s34 => [mOb kS false (eT 112 2 e_route_step) steps, mOb kS true e_route_far s34, mOb kS false eB (mSet s2.2 s20.1 true), .dead]) ⟨⟨rfl, rfl, rfl, rfl, rfl, rfl, rfl, trivial⟩, [], rfl, .inl rfl⟩ (fun i33 x35 s34 y43 hx40 hlt hy41 => ?_) (?_)
        · refine go hΓ 6 rfl ?_
          refine j_condT rfl (decide_eq_true (Int.ofNat_lt.2 hlt)) ?_
          refine go hΓ 6 rfl ?_
          refine eo_o rfl (op_elemZ hΓ (enc := e_route_step) (getZ_nat hx40) rfl rfl rfl rfl rfl (fun _ => rfl)) ?_
          refine go_ops hΓ 1 rfl ?_
          refine eo_alloc hΓ rfl rfl rfl (Nat.le_of_ble_eq_true rfl) ?_
          refine eo_store hΓ rfl rfl rfl rfl rfl rfl rfl rfl (Nat.le_of_ble_eq_true rfl) ?_
          refine eo_hp [mOb kS false (eT 112 2 e_route_step) steps, mOb kS true e_route_far s34, mOb kS false eB (mSet s2.2 s20.1 true), .dead, .box 112 [S x35.to, I x35.millis]] rfl ?_
          refine go_ops hΓ 6 rfl ?_
          refine eo_o rfl (op_lookup hΓ (kv := kS) (agg := true) (enc := e_route_far) s34 s20.1 ((⟨0, 0⟩ : T_route_far) : T_route_far) rfl rfl rfl rfl key_str rfl rfl rfl rfl rfl rfl rfl) ?_
          refine go_ops hΓ 6 rfl ?_
          refine eo_o rfl (op_lookup hΓ (kv := kS) (agg := true) (enc := e_route_far) s34 s20.1 ((⟨0, 0⟩ : T_route_far) : T_route_far) rfl rfl rfl rfl key_str rfl rfl rfl rfl rfl rfl rfl) ?_
          refine go_ops hΓ 2 rfl ?_
          refine eo_build hΓ (gs := [I (wi ((((mGet s34 s20.1).getD (⟨0, 0⟩ : T_route_far)).millis) + x35.millis)), I (wi ((((mGet s34 s20.1).getD (⟨0, 0⟩ : T_route_far)).links) + 1))]) rfl rfl rfl rfl rfl rfl rfl ?_
          refine eo_alloc hΓ rfl rfl rfl (Nat.le_of_ble_eq_true rfl) ?_
          refine eo_store hΓ rfl rfl rfl rfl rfl rfl rfl rfl (Nat.le_of_ble_eq_true rfl) ?_
          refine eo_hp [mOb kS false (eT 112 2 e_route_step) steps, mOb kS true e_route_far s34, mOb kS false eB (mSet s2.2 s20.1 true), .dead, .box 112 [S x35.to, I x35.millis], .box 108 [I (wi ((((mGet s34 s20.1).getD (⟨0, 0⟩ : T_route_far)).millis) + x35.millis)), I (wi ((((mGet s34 s20.1).getD (⟨0, 0⟩ : T_route_far)).links) + 1))]] rfl ?_
          refine go_ops hΓ 7 rfl ?_
          refine eo_o rfl (op_lookupOk hΓ (kv := kS) (agg := true) (enc := e_route_far) s34 x35.to ((⟨0, 0⟩ : T_route_far) : T_route_far) rfl rfl rfl rfl key_str rfl rfl rfl rfl rfl rfl rfl) ?_
          refine go_ops hΓ 3 rfl ?_
          refine eo_alloc hΓ rfl rfl rfl (Nat.le_of_ble_eq_true rfl) ?_
          refine eo_store hΓ rfl rfl rfl rfl rfl rfl rfl rfl (Nat.le_of_ble_eq_true rfl) ?_
          refine eo_hp [mOb kS false (eT 112 2 e_route_step) steps, mOb kS true e_route_far s34, mOb kS false eB (mSet s2.2 s20.1 true), .dead, .box 112 [S x35.to, I x35.millis], .box 108 [I (wi ((((mGet s34 s20.1).getD (⟨0, 0⟩ : T_route_far)).millis) + x35.millis)), I (wi ((((mGet s34 s20.1).getD (⟨0, 0⟩ : T_route_far)).links) + 1))], .box 108 [I (((mGet s34 x35.to).getD (⟨0, 0⟩ : T_route_far)).millis), I (((mGet s34 x35.to).getD (⟨0, 0⟩ : T_route_far)).links)]] rfl ?_
          refine go_ops hΓ 8 rfl ?_
          obtain ⟨q44, hq44, h45⟩ := bi_ok hy41
          refine o_cut 4 [(0, .map 0), (5, .map 1), (6, .map 2), (7, S s20.1), (12, .ptr 4 0), (13, .ptr 5 0), (51, .d (Sl e_route_step (((mGet steps s20.1).getD (1, [])).2))), (52, I ((((mGet steps s20.1).getD (1, [])).2).length : Int)), (53, I (i33 : Int)), (83, B q44)] [mOb kS false (eT 112 2 e_route_step) steps, mOb kS true e_route_far s34, mOb kS false eB (mSet s2.2 s20.1 true), .dead, .box 112 [S x35.to, I x35.millis], .box 108 [I (wi ((((mGet s34 s20.1).getD (⟨0, 0⟩ : T_route_far)).millis) + x35.millis)), I (wi ((((mGet s34 s20.1).getD (⟨0, 0⟩ : T_route_far)).links) + 1))], .box 108 [I (((mGet s34 x35.to).getD (⟨0, 0⟩ : T_route_far)).millis), I (((mGet s34 x35.to).getD (⟨0, 0⟩ : T_route_far)).links)]] ?_ ?_
          · refine eo_gsplit rfl rfl (fun hb => ?_) (fun hb => ?_)
            · have h46 := cT hq44 hb
              refine go_ops hΓ 5 rfl ?_
              obtain rfl := Option.some.inj h46
              exact ⟨⟨rfl, rfl, rfl, rfl, rfl, rfl, rfl, rfl, rfl, rfl, trivial⟩, [], rfl, .inl rfl⟩
            · have h47 := cF hq44 hb
              obtain ⟨y48, hy48, h49⟩ := bi_ok h47
              refine go_ops hΓ 2 rfl ?_
              refine eo_guard rfl ?_
              refine eo_callP (callable Tryd.func85 rfl rfl) (c_route_far_less hy48) rfl (Nat.le_of_ble_eq_true rfl) rfl rfl rfl rfl rfl ?_
              refine go_ops hΓ 2 rfl ?_
              obtain rfl := Option.some.inj h49
              exact ⟨⟨rfl, rfl, rfl, rfl, rfl, rfl, rfl, rfl, rfl, rfl, trivial⟩, [], rfl, .inl rfl⟩
          · refine go_ops hΓ 2 rfl ?_
            refine j_cond rfl (fun hb => ?_) (fun hb => ?_)
            · have h50 := cT h45 hb
              refine go hΓ 5 rfl ?_
              refine eo_u (Nat.le_of_ble_eq_true rfl) (opu_mapUpdate hΓ (kv := kS) (agg := true) (enc := e_route_far) (id := 1) s34 x35.to (⟨wi ((((mGet s34 s20.1).getD (⟨0, 0⟩ : T_route_far)).millis) + x35.millis), wi ((((mGet s34 s20.1).getD (⟨0, 0⟩ : T_route_far)).links) + 1)⟩ : T_route_far) rfl rfl rfl key_str rfl rfl rfl rfl rfl) ?_
              refine eo_hp [mOb kS false (eT 112 2 e_route_step) steps, mOb kS true e_route_far (mSet s34 x35.to (⟨wi ((((mGet s34 s20.1).getD (⟨0, 0⟩ : T_route_far)).millis) + x35.millis), wi ((((mGet s34 s20.1).getD (⟨0, 0⟩ : T_route_far)).links) + 1)⟩ : T_route_far)), mOb kS false eB (mSet s2.2 s20.1 true), .dead, .box 112 [S x35.to, I x35.millis], .box 108 [I (wi ((((mGet s34 s20.1).getD (⟨0, 0⟩ : T_route_far)).millis) + x35.millis)), I (wi ((((mGet s34 s20.1).getD (⟨0, 0⟩ : T_route_far)).links) + 1))], .box 108 [I (((mGet s34 x35.to).getD (⟨0, 0⟩ : T_route_far)).millis), I (((mGet s34 x35.to).getD (⟨0, 0⟩ : T_route_far)).links)]] rfl ?_
              refine go_ops hΓ 7 rfl ?_
              obtain rfl := Option.some.inj h50
              exact ⟨⟨rfl, rfl, rfl, rfl, rfl, rfl, get_eq rfl (w64_succ (Nat.lt_of_lt_of_le hlt hb39)), trivial⟩, [_, _, _], rfl, .inr ⟨HB.mk rfl, FB.mk rfl, (Nat.le_of_ble_eq_true rfl)⟩⟩
            · have h51 := cF h45 hb
              refine go hΓ 7 rfl ?_
              obtain rfl := Option.some.inj h51
              exact ⟨⟨rfl, rfl, rfl, rfl, rfl, rfl, get_eq rfl (w64_succ (Nat.lt_of_lt_of_le hlt hb39)), trivial⟩, [_, _, _], rfl, .inr ⟨HB.mk rfl, FB.mk rfl, (Nat.le_of_ble_eq_true rfl)⟩⟩
        · refine go hΓ 6 rfl ?_
          refine j_condF rfl (decide_eq_false (Int.lt_irrefl _)) ?_
          refine go hΓ 4 rfl ?_
          exact ⟨⟨rfl, rfl, rfl, trivial⟩, [], rfl, .inl rfl⟩
      · refine go hΓ 1 rfl ?_
        obtain rfl := Option.some.inj h37
        exact ⟨_, hC12, ⟨⟨rfl, rfl, rfl, trivial⟩, [_], rfl, .inr ⟨HB.mk rfl, FB.mk rfl, (Nat.le_of_ble_eq_true rfl)⟩⟩⟩
  · obtain ⟨s52, h53⟩ := hstep26 j23 x21 b24 hjsn22 hbsn22 hnsn22
    have hssn22 := h53
    refine go_ops hΓ 10 rfl ?_
    refine eo_o rfl (op_entry (kv := kS) (agg := true) (enc := e_route_far) s2.1 mr14 bs15 cl16 sn22 hjsn22 hbsn22 rfl rfl rfl rfl (fun _ => rfl)) ?_
    refine go_ops hΓ 2 rfl ?_
    refine eo_alloc hΓ rfl rfl rfl (Nat.le_of_ble_eq_true rfl) ?_
    refine go_ops hΓ 1 rfl ?_
    refine eo_store hΓ rfl rfl rfl rfl rfl rfl rfl rfl (Nat.le_of_ble_eq_true rfl) ?_
    refine eo_hp [mOb kS false (eT 112 2 e_route_step) steps, mObS kS true e_route_far s2.1 (rawM kS e_route_far mr14 bs15 cl16), mOb kS false eB s2.2, .iter 1 cl16 (sn22 ++ [b24]), .box 108 [I x21.2.millis, I x21.2.links]] rfl ?_
    refine go_ops hΓ 6 rfl ?_
    refine eo_o rfl (op_lookup hΓ (kv := kS) (agg := false) (enc := eB) s2.2 x21.1 (false : Bool) rfl rfl rfl rfl key_str rfl rfl rfl rfl rfl rfl rfl) ?_
    refine go_ops hΓ 2 rfl ?_
    obtain ⟨q54, hq54, h55⟩ := bi_ok h53
    refine o_cut 10 [(0, .map 0), (5, .map 1), (6, .map 2), (7, S s20.1), (8, B s20.2), (9, S x21.1), (22, .ptr 3 0), (42, B q54)] [mOb kS false (eT 112 2 e_route_step) steps, mObS kS true e_route_far s2.1 (rawM kS e_route_far mr14 bs15 cl16), mOb kS false eB s2.2, .iter 1 cl16 (sn22 ++ [b24]), .box 108 [I x21.2.millis, I x21.2.links]] ?_ ?_
    · refine eo_gsplit rfl rfl (fun hb => ?_) (fun hb => ?_)
      · have h56 := cT hq54 hb
        refine go_ops hΓ 3 rfl ?_
        obtain ⟨q57, hq57, h58⟩ := bi_ok h56
        refine o_cut 6 [(0, .map 0), (5, .map 1), (6, .map 2), (7, S s20.1), (8, B s20.2), (9, S x21.1), (22, .ptr 3 0), (32, B true), (41, B q57)] [mOb kS false (eT 112 2 e_route_step) steps, mObS kS true e_route_far s2.1 (rawM kS e_route_far mr14 bs15 cl16), mOb kS false eB s2.2, .iter 1 cl16 (sn22 ++ [b24]), .box 108 [I x21.2.millis, I x21.2.links]] ?_ ?_
        · refine eo_gsplit rfl rfl (fun hb => ?_) (fun hb => ?_)
          · have h59 := cT hq57 hb
            refine go_ops hΓ 7 rfl ?_
            obtain rfl := Option.some.inj h59
            exact ⟨⟨rfl, rfl, rfl, rfl, rfl, rfl, rfl, rfl, rfl, trivial⟩, [], rfl, .inl rfl⟩
          · have h60 := cF hq57 hb
            refine go_ops hΓ 3 rfl ?_
            refine eo_guard rfl ?_
            refine eo_o rfl (op_lookup hΓ (kv := kS) (agg := true) (enc := e_route_far) s2.1 s20.1 ((⟨0, 0⟩ : T_route_far) : T_route_far) rfl rfl rfl rfl key_str rfl rfl rfl rfl rfl rfl rfl) ?_
            obtain ⟨y61, hy61, h62⟩ := bi_ok h60
            refine eo_guard rfl ?_
            refine eo_callP (callable Tryd.func85 rfl rfl) (c_route_far_less hy61) rfl (Nat.le_of_ble_eq_true rfl) rfl rfl rfl rfl rfl ?_
            refine go_ops hΓ 2 rfl ?_
            obtain rfl := Option.some.inj h62
            exact ⟨⟨rfl, rfl, rfl, rfl, rfl, rfl, rfl, rfl, rfl, trivial⟩, [], rfl, .inl rfl⟩
        · refine go_ops hΓ 2 rfl ?_
          obtain rfl := Option.some.inj h58
          exact ⟨⟨rfl, rfl, rfl, rfl, rfl, rfl, rfl, rfl, trivial⟩, [], rfl, .inl rfl⟩
      · have h63 := cF hq54 hb
        refine go_ops hΓ 11 rfl ?_
        obtain rfl := Option.some.inj h63
        exact ⟨⟨rfl, rfl, rfl, rfl, rfl, rfl, rfl, rfl, trivial⟩, [], rfl, .inl rfl⟩
    · refine go_ops hΓ 2 rfl ?_
      refine j_cond rfl (fun hb => ?_) (fun hb => ?_)
      · have h64 := cT h55 hb
        refine go hΓ 6 rfl ?_
        obtain rfl := Option.some.inj h64
        exact ⟨j23, x21, b24, _, hjsn22, hbsn22, hnsn22, hssn22, ⟨⟨rfl, rfl, rfl, rfl, rfl, rfl, trivial⟩, [_], rfl, .inr ⟨HB.mk rfl, FB.mk rfl, (Nat.le_of_ble_eq_true rfl)⟩⟩⟩
      · have h65 := cF h55 hb
        refine go hΓ 2 rfl ?_
        obtain rfl := Option.some.inj h65
        exact ⟨j23, x21, b24, _, hjsn22, hbsn22, hnsn22, hssn22, ⟨⟨rfl, rfl, rfl, rfl, rfl, rfl, trivial⟩, [_], rfl, .inr ⟨HB.mk rfl, FB.mk rfl, (Nat.le_of_ble_eq_true rfl)⟩⟩⟩
set_option maxHeartbeats 8000000 in
theorem c_route_through {k : Nat} {l : List T_api_Link} {a : Str} {b : Str} {al : BagT} {r : (List Str) × Int × Int × BagT} (h : m_route_through k l a b al = some r) : EC Tryd.prog 56 [.d (Sl e_api_Link l), S a, S b] [.bag al.1 (arX al.2) []] fun g hp' => g = .tup [.d (Sl eS r.1), I r.2.1, I r.2.2.1] ∧ hp' = [.bag r.2.2.2.1 (arX r.2.2.2.2) []] := by
  refine ec_enter (Fr.of 0 _) Tryd.func56 rfl (Fr.of_ok _) (Nat.le_of_ble_eq_true rfl) fun _ => ?_
  refine go_in ?_
  unfold m_route_through at h
  obtain ⟨y1, hy1, h2⟩ := bi_ok h
  refine go hΓ 10 rfl ?_
  refine eo_callF [0] (.map 1) [.bag y1.2.1 (arX y1.2.2) [], mOb kS false (eT 112 2 e_route_step) y1.1] (callable Tryd.func76 rfl rfl) (c_route_stepsOf hy1) rfl (Nat.le_of_ble_eq_true rfl) rfl rfl rfl rfl rfl rfl rfl rfl rfl rfl ?_
  obtain ⟨y3, hy3, h4⟩ := bi_ok h2
  refine go_ops hΓ 7 rfl ?_
  refine eo_callF [1] (.map 2) [.bag y1.2.1 (arX y1.2.2) [], mOb kS false (eT 112 2 e_route_step) y1.1, mOb kS true e_route_far y3] (callable Tryd.func77 rfl rfl) (c_route_distances hy3) rfl (Nat.le_of_ble_eq_true rfl) rfl rfl rfl rfl rfl rfl rfl rfl rfl rfl ?_
  refine go_ops hΓ 8 rfl ?_
  refine eo_o rfl (op_lookupOk hΓ (kv := kS) (agg := true) (enc := e_route_far) y3 a ((⟨0, 0⟩ : T_route_far) : T_route_far) rfl rfl rfl rfl key_str rfl rfl rfl rfl rfl rfl rfl) ?_
  refine go_ops hΓ 3 rfl ?_
  refine eo_alloc hΓ rfl rfl rfl (Nat.le_of_ble_eq_true rfl) ?_
  refine eo_store hΓ rfl rfl rfl rfl rfl rfl rfl rfl (Nat.le_of_ble_eq_true rfl) ?_
  refine eo_hp [.bag y1.2.1 (arX y1.2.2) [], mOb kS false (eT 112 2 e_route_step) y1.1, mOb kS true e_route_far y3, .box 108 [I (((mGet y3 a).getD (⟨0, 0⟩ : T_route_far)).millis), I (((mGet y3 a).getD (⟨0, 0⟩ : T_route_far)).links)]] rfl ?_
  refine go_ops hΓ 9 rfl ?_
  refine j_cond rfl (fun hb => ?_) (fun hb => ?_)
  · have h5 := cT h4 hb
    refine go hΓ 9 rfl ?_
    obtain rfl := Option.some.inj h5
    exact fin_objs hΓ [_, _, _] (.inr rfl) rfl rfl rfl rfl (.inr ⟨HB.mk rfl, rfl⟩)
  · have h6 := cF h4 hb
    refine go hΓ 5 rfl ?_
    refine eo_litRowT hΓ (enc := eS) [a] rfl rfl rfl rfl rfl rfl rfl rfl rfl rfl rfl rfl (Nat.le_of_ble_eq_true rfl) ?_
    refine go_ops hΓ 10 rfl ?_
    obtain ⟨q10, hq10, h11⟩ := bi_ok h6
    refine j_cutNZ [(1, S a), (10, .map 2), (13, .sl 4 q10.length)] [.bag y1.2.1 (arX y1.2.2) [], mOb kS false (eT 112 2 e_route_step) y1.1, mOb kS true e_route_far y3, .box 108 [I (((mGet y3 a).getD (⟨0, 0⟩ : T_route_far)).millis), I (((mGet y3 a).getD (⟨0, 0⟩ : T_route_far)).links)], .row 9 1 q10.length (q10.flatMap eS)] ?_ ?_
    · refine go hΓ 1 rfl ?_
      refine j_loop hq10 (fun s8 => [(1, S a), (2, S b), (9, .map 1), (10, .map 2), (13, .sl 4 s8.1.length), (14, S s8.2)]) (fun s8 => [.bag y1.2.1 (arX y1.2.2) [], mOb kS false (eT 112 2 e_route_step) y1.1, mOb kS true e_route_far y3, .box 108 [I (((mGet y3 a).getD (⟨0, 0⟩ : T_route_far)).millis), I (((mGet y3 a).getD (⟨0, 0⟩ : T_route_far)).links)], .row 9 1 s8.1.length (s8.1.flatMap eS)]) ⟨⟨rfl, rfl, rfl, rfl, rfl, rfl, trivial⟩, [], rfl, .inl rfl⟩ (fun s8 y16 hy14 hout15 => ?_)
      refine go hΓ 8 rfl ?_
      refine j_cond rfl (fun hb => ?_) (fun hb => ?_)
      · have h17 := cT hy14 hb
        refine go hΓ 13 rfl ?_
        refine eo_o rfl (op_le (op_lookupT hΓ (kv := kS) (te := 112) (sz := 2) (enc := e_route_step) y1.1 s8.2 rfl rfl rfl rfl key_str rfl rfl rfl rfl rfl) G.Le.unt) ?_
        refine go_ops hΓ 4 rfl ?_
        obtain ⟨q21, hq21, h22⟩ := bi_ok h17
        refine j_bound 41 rfl fun hb24 => ?_
        refine j_cutNZ [(1, S a), (2, S b), (9, .map 1), (10, .map 2), (13, .sl 4 s8.1.length), (15, S q21)] [.bag y1.2.1 (arX y1.2.2) [], mOb kS false (eT 112 2 e_route_step) y1.1, mOb kS true e_route_far y3, .box 108 [I (((mGet y3 a).getD (⟨0, 0⟩ : T_route_far)).millis), I (((mGet y3 a).getD (⟨0, 0⟩ : T_route_far)).links)], .row 9 1 s8.1.length (s8.1.flatMap eS)] ?_ ?_
        · refine go hΓ 1 rfl ?_
          refine j_rangeF (((mGet y1.1 s8.2).getD (1, [])).2) hq21 (fun i18 s19 => [(1, S a), (2, S b), (9, .map 1), (10, .map 2), (13, .sl 4 s8.1.length), (14, S s8.2), (15, S s19), (41, .d (Sl e_route_step (((mGet y1.1 s8.2).getD (1, [])).2))), (42, I ((((mGet y1.1 s8.2).getD (1, [])).2).length : Int)), (43, I (i18 : Int))]) (fun s19 => [.bag y1.2.1 (arX y1.2.2) [], mOb kS false (eT 112 2 e_route_step) y1.1, mOb kS true e_route_far y3, .box 108 [I (((mGet y3 a).getD (⟨0, 0⟩ : T_route_far)).millis), I (((mGet y3 a).getD (⟨0, 0⟩ : T_route_far)).links)], .row 9 1 s8.1.length (s8.1.flatMap eS)]) ⟨⟨rfl, rfl, rfl, rfl, rfl, rfl, rfl, rfl, rfl, rfl, trivial⟩, [], rfl, .inl rfl⟩ (fun i18 x20 s19 y28 hx25 hlt hy26 => ?_) (?_)
          · refine go hΓ 6 rfl ?_
            refine j_condT rfl (decide_eq_true (Int.ofNat_lt.2 hlt)) ?_
            refine go hΓ 6 rfl ?_
            refine eo_o rfl (op_elemZ hΓ (enc := e_route_step) (getZ_nat hx25) rfl rfl rfl rfl rfl (fun _ => rfl)) ?_
            refine go_ops hΓ 1 rfl ?_
            refine eo_alloc hΓ rfl rfl rfl (Nat.le_of_ble_eq_true rfl) ?_
            refine eo_store hΓ rfl rfl rfl rfl rfl rfl rfl rfl (Nat.le_of_ble_eq_true rfl) ?_
            refine eo_hp [.bag y1.2.1 (arX y1.2.2) [], mOb kS false (eT 112 2 e_route_step) y1.1, mOb kS true e_route_far y3, .box 108 [I (((mGet y3 a).getD (⟨0, 0⟩ : T_route_far)).millis), I (((mGet y3 a).getD (⟨0, 0⟩ : T_route_far)).links)], .row 9 1 s8.1.length (s8.1.flatMap eS), .box 112 [S x20.to, I x20.millis]] rfl ?_
            refine go_ops hΓ 7 rfl ?_
            refine eo_o rfl (op_lookupOk hΓ (kv := kS) (agg := true) (enc := e_route_far) y3 x20.to ((⟨0, 0⟩ : T_route_far) : T_route_far) rfl rfl rfl rfl key_str rfl rfl rfl rfl rfl rfl rfl) ?_
            refine go_ops hΓ 3 rfl ?_
            refine eo_alloc hΓ rfl rfl rfl (Nat.le_of_ble_eq_true rfl) ?_
            refine eo_store hΓ rfl rfl rfl rfl rfl rfl rfl rfl (Nat.le_of_ble_eq_true rfl) ?_
            refine eo_hp [.bag y1.2.1 (arX y1.2.2) [], mOb kS false (eT 112 2 e_route_step) y1.1, mOb kS true e_route_far y3, .box 108 [I (((mGet y3 a).getD (⟨0, 0⟩ : T_route_far)).millis), I (((mGet y3 a).getD (⟨0, 0⟩ : T_route_far)).links)], .row 9 1 s8.1.length (s8.1.flatMap eS), .box 112 [S x20.to, I x20.millis], .box 108 [I (((mGet y3 x20.to).getD (⟨0, 0⟩ : T_route_far)).millis), I (((mGet y3 x20.to).getD (⟨0, 0⟩ : T_route_far)).links)]] rfl ?_
            refine go_ops hΓ 7 rfl ?_
            refine o_cut 11 [(1, S a), (2, S b), (9, .map 1), (10, .map 2), (13, .sl 4 s8.1.length), (14, S s8.2), (15, S s19), (17, .ptr 5 0), (18, .ptr 6 0), (41, .d (Sl e_route_step (((mGet y1.1 s8.2).getD (1, [])).2))), (42, I ((((mGet y1.1 s8.2).getD (1, [])).2).length : Int)), (43, I (i18 : Int)), (66, B (((mGet y3 x20.to).isSome) && ((wi ((((mGet y3 x20.to).getD (⟨0, 0⟩ : T_route_far)).millis) + x20.millis) : Int) == (((mGet y3 s8.2).getD (⟨0, 0⟩ : T_route_far)).millis))))] [.bag y1.2.1 (arX y1.2.2) [], mOb kS false (eT 112 2 e_route_step) y1.1, mOb kS true e_route_far y3, .box 108 [I (((mGet y3 a).getD (⟨0, 0⟩ : T_route_far)).millis), I (((mGet y3 a).getD (⟨0, 0⟩ : T_route_far)).links)], .row 9 1 s8.1.length (s8.1.flatMap eS), .box 112 [S x20.to, I x20.millis], .box 108 [I (((mGet y3 x20.to).getD (⟨0, 0⟩ : T_route_far)).millis), I (((mGet y3 x20.to).getD (⟨0, 0⟩ : T_route_far)).links)]] ?_ ?_
            · refine eo_gsplit rfl rfl (fun hb => ?_) (fun hb => ?_)
              · refine go_ops hΓ 7 rfl ?_
                refine eo_guard rfl ?_
                refine eo_o rfl (op_lookup hΓ (kv := kS) (agg := true) (enc := e_route_far) y3 s8.2 ((⟨0, 0⟩ : T_route_far) : T_route_far) rfl rfl rfl rfl key_str rfl rfl rfl rfl rfl rfl rfl) ?_
                refine go_ops hΓ 4 rfl ?_
                exact ⟨⟨rfl, rfl, rfl, rfl, rfl, rfl, rfl, rfl, rfl, rfl, rfl, rfl, get_b rfl (and_t hb), trivial⟩, [], rfl, .inl rfl⟩
              · refine go_ops hΓ 12 rfl ?_
                exact ⟨⟨rfl, rfl, rfl, rfl, rfl, rfl, rfl, rfl, rfl, rfl, rfl, rfl, get_b rfl (and_f hb), trivial⟩, [], rfl, .inl rfl⟩
            · refine go_ops hΓ 1 rfl ?_
              refine o_cut 9 [(1, S a), (2, S b), (9, .map 1), (10, .map 2), (13, .sl 4 s8.1.length), (14, S s8.2), (15, S s19), (17, .ptr 5 0), (41, .d (Sl e_route_step (((mGet y1.1 s8.2).getD (1, [])).2))), (42, I ((((mGet y1.1 s8.2).getD (1, [])).2).length : Int)), (43, I (i18 : Int)), (76, B ((((mGet y3 x20.to).isSome) && ((wi ((((mGet y3 x20.to).getD (⟨0, 0⟩ : T_route_far)).millis) + x20.millis) : Int) == (((mGet y3 s8.2).getD (⟨0, 0⟩ : T_route_far)).millis))) && ((wi ((((mGet y3 x20.to).getD (⟨0, 0⟩ : T_route_far)).links) + 1) : Int) == (((mGet y3 s8.2).getD (⟨0, 0⟩ : T_route_far)).links))))] [.bag y1.2.1 (arX y1.2.2) [], mOb kS false (eT 112 2 e_route_step) y1.1, mOb kS true e_route_far y3, .box 108 [I (((mGet y3 a).getD (⟨0, 0⟩ : T_route_far)).millis), I (((mGet y3 a).getD (⟨0, 0⟩ : T_route_far)).links)], .row 9 1 s8.1.length (s8.1.flatMap eS), .box 112 [S x20.to, I x20.millis], .box 108 [I (((mGet y3 x20.to).getD (⟨0, 0⟩ : T_route_far)).millis), I (((mGet y3 x20.to).getD (⟨0, 0⟩ : T_route_far)).links)]] ?_ ?_
              · refine eo_gsplit rfl rfl (fun hb => ?_) (fun hb => ?_)
                · refine go_ops hΓ 5 rfl ?_
                  refine eo_guard rfl ?_
                  refine eo_o rfl (op_lookup hΓ (kv := kS) (agg := true) (enc := e_route_far) y3 s8.2 ((⟨0, 0⟩ : T_route_far) : T_route_far) rfl rfl rfl rfl key_str rfl rfl rfl rfl rfl rfl rfl) ?_
                  refine go_ops hΓ 4 rfl ?_
                  exact ⟨⟨rfl, rfl, rfl, rfl, rfl, rfl, rfl, rfl, rfl, rfl, rfl, get_b rfl (and_t hb), trivial⟩, [], rfl, .inl rfl⟩
                · refine go_ops hΓ 10 rfl ?_
                  exact ⟨⟨rfl, rfl, rfl, rfl, rfl, rfl, rfl, rfl, rfl, rfl, rfl, get_b rfl (and_f hb), trivial⟩, [], rfl, .inl rfl⟩
              · refine go_ops hΓ 1 rfl ?_
                refine o_cut 9 [(1, S a), (2, S b), (9, .map 1), (10, .map 2), (13, .sl 4 s8.1.length), (14, S s8.2), (15, S s19), (17, .ptr 5 0), (41, .d (Sl e_route_step (((mGet y1.1 s8.2).getD (1, [])).2))), (42, I ((((mGet y1.1 s8.2).getD (1, [])).2).length : Int)), (43, I (i18 : Int)), (86, B (((((mGet y3 x20.to).isSome) && ((wi ((((mGet y3 x20.to).getD (⟨0, 0⟩ : T_route_far)).millis) + x20.millis) : Int) == (((mGet y3 s8.2).getD (⟨0, 0⟩ : T_route_far)).millis))) && ((wi ((((mGet y3 x20.to).getD (⟨0, 0⟩ : T_route_far)).links) + 1) : Int) == (((mGet y3 s8.2).getD (⟨0, 0⟩ : T_route_far)).links))) && (((s19 : Str) == []) || (Op.bytesLess x20.to s19))))] [.bag y1.2.1 (arX y1.2.2) [], mOb kS false (eT 112 2 e_route_step) y1.1, mOb kS true e_route_far y3, .box 108 [I (((mGet y3 a).getD (⟨0, 0⟩ : T_route_far)).millis), I (((mGet y3 a).getD (⟨0, 0⟩ : T_route_far)).links)], .row 9 1 s8.1.length (s8.1.flatMap eS), .box 112 [S x20.to, I x20.millis], .box 108 [I (((mGet y3 x20.to).getD (⟨0, 0⟩ : T_route_far)).millis), I (((mGet y3 x20.to).getD (⟨0, 0⟩ : T_route_far)).links)]] ?_ ?_
                · refine eo_gsplit rfl rfl (fun hb => ?_) (fun hb => ?_)
                  · refine go_ops hΓ 3 rfl ?_
                    refine o_cut 5 [(1, S a), (2, S b), (9, .map 1), (10, .map 2), (13, .sl 4 s8.1.length), (14, S s8.2), (15, S s19), (17, .ptr 5 0), (41, .d (Sl e_route_step (((mGet y1.1 s8.2).getD (1, [])).2))), (42, I ((((mGet y1.1 s8.2).getD (1, [])).2).length : Int)), (43, I (i18 : Int)), (77, B true), (85, B (((s19 : Str) == []) || (Op.bytesLess x20.to s19)))] [.bag y1.2.1 (arX y1.2.2) [], mOb kS false (eT 112 2 e_route_step) y1.1, mOb kS true e_route_far y3, .box 108 [I (((mGet y3 a).getD (⟨0, 0⟩ : T_route_far)).millis), I (((mGet y3 a).getD (⟨0, 0⟩ : T_route_far)).links)], .row 9 1 s8.1.length (s8.1.flatMap eS), .box 112 [S x20.to, I x20.millis], .box 108 [I (((mGet y3 x20.to).getD (⟨0, 0⟩ : T_route_far)).millis), I (((mGet y3 x20.to).getD (⟨0, 0⟩ : T_route_far)).links)]] ?_ ?_
                    · refine eo_gsplit rfl rfl (fun hb => ?_) (fun hb => ?_)
                      · refine go_ops hΓ 6 rfl ?_
                        exact ⟨⟨rfl, rfl, rfl, rfl, rfl, rfl, rfl, rfl, rfl, rfl, rfl, rfl, get_b rfl (or_t hb), trivial⟩, [], rfl, .inl rfl⟩
                      · refine go_ops hΓ 6 rfl ?_
                        exact ⟨⟨rfl, rfl, rfl, rfl, rfl, rfl, rfl, rfl, rfl, rfl, rfl, rfl, get_b rfl (or_f hb), trivial⟩, [], rfl, .inl rfl⟩
                    · refine go_ops hΓ 2 rfl ?_
                      exact ⟨⟨rfl, rfl, rfl, rfl, rfl, rfl, rfl, rfl, rfl, rfl, rfl, get_b rfl (and_t hb), trivial⟩, [], rfl, .inl rfl⟩
                  · refine go_ops hΓ 10 rfl ?_
                    exact ⟨⟨rfl, rfl, rfl, rfl, rfl, rfl, rfl, rfl, rfl, rfl, rfl, get_b rfl (and_f hb), trivial⟩, [], rfl, .inl rfl⟩
                · refine go_ops hΓ 2 rfl ?_
                  refine j_cond rfl (fun hb => ?_) (fun hb => ?_)
                  · have h29 := cT hy26 hb
                    refine go hΓ 11 rfl ?_
                    obtain rfl := Option.some.inj h29
                    exact ⟨⟨rfl, rfl, rfl, rfl, rfl, rfl, rfl, rfl, rfl, get_eq rfl (w64_succ (Nat.lt_of_lt_of_le hlt hb24)), trivial⟩, [_, _], rfl, .inr ⟨HB.mk rfl, FB.mk rfl, (Nat.le_of_ble_eq_true rfl)⟩⟩
                  · have h30 := cF hy26 hb
                    refine go hΓ 7 rfl ?_
                    obtain rfl := Option.some.inj h30
                    exact ⟨⟨rfl, rfl, rfl, rfl, rfl, rfl, rfl, rfl, rfl, get_eq rfl (w64_succ (Nat.lt_of_lt_of_le hlt hb24)), trivial⟩, [_, _], rfl, .inr ⟨HB.mk rfl, FB.mk rfl, (Nat.le_of_ble_eq_true rfl)⟩⟩
          · refine go hΓ 6 rfl ?_
            refine j_condF rfl (decide_eq_false (Int.lt_irrefl _)) ?_
            refine go hΓ 4 rfl ?_
            exact ⟨⟨rfl, rfl, rfl, rfl, rfl, rfl, trivial⟩, [], rfl, .inl rfl⟩
        · refine go hΓ 10 rfl ?_
          refine eo_litT hΓ (enc := eS) [q21] rfl rfl rfl rfl rfl rfl rfl rfl rfl rfl rfl rfl (Nat.le_of_ble_eq_true rfl) ?_
          obtain ⟨y31, hy31, h32⟩ := bi_ok h22
          refine eo_appendT hΓ (enc := eS) hy31 rfl rfl rfl rfl rfl rfl rfl rfl rfl (fun _ => rfl) rfl rfl rfl rfl ?_
          refine go_ops hΓ 3 rfl ?_
          obtain rfl := Option.some.inj h32
          exact ⟨_, rfl, ⟨⟨rfl, rfl, rfl, rfl, rfl, rfl, trivial⟩, [], rfl, .inl rfl⟩⟩
      · have h33 := cF hy14 hb
        refine go hΓ 4 rfl ?_
        obtain rfl := Option.some.inj h33
        obtain rfl := hout15 _ rfl
        exact ⟨⟨rfl, rfl, rfl, trivial⟩, [], rfl, .inl rfl⟩
    · refine go hΓ 2 rfl ?_
      refine j_draw hmix (by kernel_rfl) ?_
      refine go hΓ 3 rfl ?_
      refine gl_o rfl (op_lookup hΓ (kv := kS) (agg := true) (enc := e_route_far) y3 a ((⟨0, 0⟩ : T_route_far) : T_route_far) rfl rfl rfl rfl key_str rfl rfl rfl rfl rfl rfl rfl) ?_
      refine go_draw hΓ 6 rfl ?_
      refine j_shr 4 [6, 13, 95] _ [.bag y1.2.1 (arX y1.2.2) [], mOb kS false (eT 112 2 e_route_step) y1.1, mOb kS true e_route_far y3, .box 108 [I (((mGet y3 a).getD (⟨0, 0⟩ : T_route_far)).millis), I (((mGet y3 a).getD (⟨0, 0⟩ : T_route_far)).links)], .dead] rfl rfl rfl (Nat.le_of_ble_eq_true rfl) ?_
      refine go hΓ 1 rfl ?_
      obtain rfl := Option.some.inj h11
      exact fin_objs hΓ [_, _, _, _] (.inr rfl) rfl rfl rfl rfl (.inr ⟨HB.mk rfl, rfl⟩)
theorem c_route_Through {k : Nat} {l : List T_api_Link} {a : Str} {b : Str} {al : BagT} {r : (List Str) × Int × Int × BagT} (h : m_route_Through k l a b al = some r) : EC Tryd.prog 24 [.d (Sl e_api_Link l), S a, S b] [.bag al.1 (arX al.2) []] fun g hp' => g = .tup [.d (Sl eS r.1), I r.2.1, I r.2.2.1] ∧ hp' = [.bag r.2.2.2.1 (arX r.2.2.2.2) []] := by
  refine ec_enter (Fr.of 0 _) Tryd.func24 rfl (Fr.of_ok _) (Nat.le_of_ble_eq_true rfl) fun _ => ?_
  refine go_in ?_
  unfold m_route_Through at h
  obtain ⟨y1, hy1, h2⟩ := bi_ok h
  refine go hΓ 11 rfl ?_
  refine eo_callP (callable Tryd.func26 rfl rfl) (c_route_CheckLinks hy1) rfl (Nat.le_of_ble_eq_true rfl) rfl rfl rfl rfl rfl ?_
  refine go_ops hΓ 9 rfl ?_
  refine j_cond rfl (fun hb => ?_) (fun hb => ?_)
  · have h3 := cT h2 hb
    refine go hΓ 10 rfl ?_
    obtain rfl := Option.some.inj h3
    exact fin_objs hΓ [] (.inr rfl) rfl rfl rfl rfl (.inl rfl)
  · have h4 := cF h2 hb
    obtain ⟨y5, hy5, h6⟩ := bi_ok h4
    refine go hΓ 6 rfl ?_
    refine eo_callP (callable Tryd.func51 rfl rfl) (c_kit_IsKey hy5) rfl (Nat.le_of_ble_eq_true rfl) rfl rfl rfl rfl rfl ?_
    refine go_ops hΓ 2 rfl ?_
    obtain ⟨q7, hq7, h8⟩ := bi_ok h6
    refine o_cut 4 [(0, .d (Sl e_api_Link l)), (1, S a), (2, S b), (22, B q7)] [.bag al.1 (arX al.2) []] ?_ ?_
    · refine eo_gsplit rfl rfl (fun hb => ?_) (fun hb => ?_)
      · have h9 := cT hq7 hb
        refine go_ops hΓ 5 rfl ?_
        obtain rfl := Option.some.inj h9
        exact ⟨⟨rfl, rfl, rfl, rfl, trivial⟩, [], rfl, .inl rfl⟩
      · have h10 := cF hq7 hb
        obtain ⟨y11, hy11, h12⟩ := bi_ok h10
        refine go_ops hΓ 1 rfl ?_
        refine eo_guard rfl ?_
        refine eo_callP (callable Tryd.func51 rfl rfl) (c_kit_IsKey hy11) rfl (Nat.le_of_ble_eq_true rfl) rfl rfl rfl rfl rfl ?_
        refine go_ops hΓ 3 rfl ?_
        obtain rfl := Option.some.inj h12
        exact ⟨⟨rfl, rfl, rfl, rfl, trivial⟩, [], rfl, .inl rfl⟩
    · refine go_ops hΓ 2 rfl ?_
      refine j_cond rfl (fun hb => ?_) (fun hb => ?_)
      · have h13 := cT h8 hb
        refine go hΓ 9 rfl ?_
        obtain rfl := Option.some.inj h13
        exact fin_objs hΓ [] (.inr rfl) rfl rfl rfl rfl (.inl rfl)
      · have h14 := cF h8 hb
        obtain ⟨y15, hy15, h16⟩ := bi_ok h14
        refine go hΓ 7 rfl ?_
        refine eo_callF [0] (.tup [.d (Sl eS y15.1), I y15.2.1, I y15.2.2.1]) [.bag y15.2.2.2.1 (arX y15.2.2.2.2) []] (callable Tryd.func56 rfl rfl) (c_route_through hy15) rfl (Nat.le_of_ble_eq_true rfl) rfl rfl rfl rfl rfl rfl rfl rfl rfl rfl ?_
        refine go_ops hΓ 9 rfl ?_
        obtain rfl := Option.some.inj h16
        exact fin_objs hΓ [] (.inr rfl) rfl rfl rfl rfl (.inl rfl)
theorem c_laneref2_in {n : Int} {low : Int} {high : Int} {r : Bool} (h : m_laneref2_in n low high = some r) : Pure Tryd.prog 72 [I n, I low, I high] (B r) := by
  refine Pure.enter (Fr.of 0 _) Tryd.func72 rfl (Fr.of_ok _) rfl rfl ?_
  refine go_in ?_
  unfold m_laneref2_in at h
  refine go hΓ 11 rfl ?_
  refine o_cut 4 [(6, B false), (14, B ((decide ((low : Int) ≤ n)) && (decide ((n : Int) ≤ high))))] [] ?_ ?_
  · refine eo_gsplit rfl rfl (fun hb => ?_) (fun hb => ?_)
    · refine go_ops hΓ 5 rfl ?_
      exact ⟨⟨rfl, get_b rfl (and_t hb), trivial⟩, [], rfl, .inl rfl⟩
    · refine go_ops hΓ 5 rfl ?_
      exact ⟨⟨rfl, get_b rfl (and_f hb), trivial⟩, [], rfl, .inl rfl⟩
  · refine go_ops hΓ 4 rfl ?_
    obtain rfl := Option.some.inj h
    exact fin_pure hΓ (.inr rfl) rfl rfl
theorem c_laneref2_only {s : Str} {v_some : Str} {r : Bool} (h : m_laneref2_only s v_some = some r) : Pure Tryd.prog 73 [S s, S v_some] (B r) := by
  refine Pure.enter (Fr.of 0 _) Tryd.func73 rfl (Fr.of_ok _) rfl rfl ?_
  refine go_in ?_
  unfold m_laneref2_only at h
  obtain ⟨y1, hy1, h2⟩ := bi_ok h
  refine go hΓ 9 rfl ?_
  refine eo_callP (callable Tryd.func83 rfl rfl) (c_strings_Trim hy1) rfl (Nat.le_of_ble_eq_true rfl) rfl rfl rfl rfl rfl ?_
  refine go_ops hΓ 5 rfl ?_
  obtain rfl := Option.some.inj h2
  exact fin_pure hΓ (.inr rfl) rfl rfl
theorem c_laneref2_Key {s : Str} {r : Bool} (h : m_laneref2_Key s = some r) : Pure Tryd.prog 45 [S s] (B r) := by
  refine Pure.enter (Fr.of 0 _) Tryd.func45 rfl (Fr.of_ok _) rfl rfl ?_
  refine go_in ?_
  unfold m_laneref2_Key at h
  obtain ⟨y1, hy1, h2⟩ := bi_ok h
  refine go hΓ 9 rfl ?_
  refine eo_callP (callable Tryd.func72 rfl rfl) (c_laneref2_in hy1) rfl (Nat.le_of_ble_eq_true rfl) rfl rfl rfl rfl rfl ?_
  refine go_ops hΓ 1 rfl ?_
  obtain ⟨q3, hq3, h4⟩ := bi_ok h2
  refine o_cut 4 [(0, S s), (2, B false), (10, B q3)] [] ?_ ?_
  · refine eo_gsplit rfl rfl (fun hb => ?_) (fun hb => ?_)
    · have h5 := cT hq3 hb
      obtain ⟨z6, hz6, h7⟩ := bi_ok h5
      refine go_ops hΓ 1 rfl ?_
      refine eo_guard rfl ?_
      refine eo_o rfl (op_subZ hΓ hz6 rfl rfl rfl rfl rfl) ?_
      obtain ⟨y8, hy8, h9⟩ := bi_ok h7
      refine eo_guard rfl ?_
      refine eo_callP (callable Tryd.func73 rfl rfl) (c_laneref2_only hy8) rfl (Nat.le_of_ble_eq_true rfl) rfl rfl rfl rfl rfl ?_
      refine go_ops hΓ 2 rfl ?_
      obtain rfl := Option.some.inj h9
      exact ⟨⟨rfl, rfl, rfl, trivial⟩, [], rfl, .inl rfl⟩
    · have h10 := cF hq3 hb
      refine go_ops hΓ 5 rfl ?_
      obtain rfl := Option.some.inj h10
      exact ⟨⟨rfl, rfl, rfl, trivial⟩, [], rfl, .inl rfl⟩
  · refine go_ops hΓ 1 rfl ?_
    obtain ⟨q11, hq11, h12⟩ := bi_ok h4
    refine o_cut 3 [(2, B false), (14, B q11)] [] ?_ ?_
    · refine eo_gsplit rfl rfl (fun hb => ?_) (fun hb => ?_)
      · have h13 := cT hq11 hb
        obtain ⟨y14, hy14, h15⟩ := bi_ok h13
        refine go_ops hΓ 1 rfl ?_
        refine eo_guard rfl ?_
        refine eo_callP (callable Tryd.func73 rfl rfl) (c_laneref2_only hy14) rfl (Nat.le_of_ble_eq_true rfl) rfl rfl rfl rfl rfl ?_
        refine go_ops hΓ 2 rfl ?_
        obtain rfl := Option.some.inj h15
        exact ⟨⟨rfl, rfl, trivial⟩, [], rfl, .inl rfl⟩
      · have h16 := cF hq11 hb
        refine go_ops hΓ 4 rfl ?_
        obtain rfl := Option.some.inj h16
        exact ⟨⟨rfl, rfl, trivial⟩, [], rfl, .inl rfl⟩
    · refine go_ops hΓ 4 rfl ?_
      obtain rfl := Option.some.inj h12
      exact fin_pure hΓ (.inr rfl) rfl rfl
theorem c_laneref1_in {n : Int} {low : Int} {high : Int} {r : Bool} (h : m_laneref1_in n low high = some r) : Pure Tryd.prog 46 [I n, I low, I high] (B r) := by
  refine Pure.enter (Fr.of 0 _) Tryd.func46 rfl (Fr.of_ok _) rfl rfl ?_
  refine go_in ?_
  unfold m_laneref1_in at h
  refine go hΓ 11 rfl ?_
  refine o_cut 4 [(6, B false), (14, B ((decide ((low : Int) ≤ n)) && (decide ((n : Int) ≤ high))))] [] ?_ ?_
  · refine eo_gsplit rfl rfl (fun hb => ?_) (fun hb => ?_)
    · refine go_ops hΓ 5 rfl ?_
      exact ⟨⟨rfl, get_b rfl (and_t hb), trivial⟩, [], rfl, .inl rfl⟩
    · refine go_ops hΓ 5 rfl ?_
      exact ⟨⟨rfl, get_b rfl (and_f hb), trivial⟩, [], rfl, .inl rfl⟩
  · refine go_ops hΓ 4 rfl ?_
    obtain rfl := Option.some.inj h
    exact fin_pure hΓ (.inr rfl) rfl rfl
set_option maxHeartbeats 8000000 in
theorem c_laneref1_LinksFault {l : List T_api_Link} {r : Int} (h : m_laneref1_LinksFault l = some r) : Pure Tryd.prog 25 [.d (Sl e_api_Link l)] (I r) := by
  refine Pure.enter (Fr.of 0 _) Tryd.func25 rfl (Fr.of_ok _) rfl rfl ?_
  refine go_in ?_
  unfold m_laneref1_LinksFault at h
  refine go hΓ 13 rfl ?_
  refine j_cond rfl (fun hb => ?_) (fun hb => ?_)
  · have h1 := cT h hb
    refine go hΓ 7 rfl ?_
    obtain rfl := Option.some.inj h1
    exact fin_pure hΓ (.inr rfl) rfl rfl
  · have h2 := cF h hb
    refine go hΓ 10 rfl ?_
    obtain ⟨q6, hq6, h7⟩ := bi_ok h2
    refine j_bound 0 rfl fun hb9 => ?_
    refine j_cutEZ (R := fun a8 => q6 = .go a8) (fun a8 => []) (fun a8 => []) ?_ ?_
    · refine go hΓ 1 rfl ?_
      refine j_range l hq6 (fun i3 s4 => [(0, .d (Sl e_api_Link l)), (8, .d (Sl e_api_Link l)), (9, I (l.length : Int)), (10, I (i3 : Int))]) (fun s4 => []) ⟨⟨rfl, rfl, rfl, rfl, trivial⟩, [], rfl, .inl rfl⟩ (fun i3 x5 s4 y13 hx10 hlt hy11 hout12 => ?_) (fun s4 hgo => ?_)
      · refine go hΓ 6 rfl ?_
        refine j_condT rfl (decide_eq_true (Int.ofNat_lt.2 hlt)) ?_
        refine go hΓ 7 rfl ?_
        refine eo_o rfl (op_elemZ hΓ (enc := e_api_Link) (getZ_nat hx10) rfl rfl rfl rfl rfl (fun _ => rfl)) ?_
        refine go_ops hΓ 1 rfl ?_
        refine eo_alloc hΓ rfl rfl rfl (Nat.le_of_ble_eq_true rfl) ?_
        refine go_ops hΓ 1 rfl ?_
        refine eo_store hΓ rfl rfl rfl rfl rfl rfl rfl rfl (Nat.le_of_ble_eq_true rfl) ?_
        refine eo_hp [.box 80 [S x5.A, S x5.v_B, I x5.Millis]] rfl ?_
        obtain ⟨y14, hy14, h15⟩ := bi_ok hy11
        refine go_ops hΓ 7 rfl ?_
        refine eo_callP (callable Tryd.func45 rfl rfl) (c_laneref2_Key hy14) rfl (Nat.le_of_ble_eq_true rfl) rfl rfl rfl rfl rfl ?_
        refine go_ops hΓ 2 rfl ?_
        obtain ⟨q16, hq16, h17⟩ := bi_ok h15
        refine o_cut 5 [(0, .d (Sl e_api_Link l)), (3, I (i3 : Int)), (4, .ptr 0 0), (8, .d (Sl e_api_Link l)), (9, I (l.length : Int)), (10, I (i3 : Int)), (25, B q16)] [.box 80 [S x5.A, S x5.v_B, I x5.Millis]] ?_ ?_
        · refine eo_gsplit rfl rfl (fun hb => ?_) (fun hb => ?_)
          · have h18 := cT hq16 hb
            refine go_ops hΓ 6 rfl ?_
            obtain rfl := Option.some.inj h18
            exact ⟨⟨rfl, rfl, rfl, rfl, rfl, rfl, rfl, trivial⟩, [], rfl, .inl rfl⟩
          · have h19 := cF hq16 hb
            obtain ⟨y20, hy20, h21⟩ := bi_ok h19
            refine go_ops hΓ 2 rfl ?_
            refine eo_guard rfl ?_
            refine eo_callP (callable Tryd.func45 rfl rfl) (c_laneref2_Key hy20) rfl (Nat.le_of_ble_eq_true rfl) rfl rfl rfl rfl rfl ?_
            refine go_ops hΓ 3 rfl ?_
            obtain rfl := Option.some.inj h21
            exact ⟨⟨rfl, rfl, rfl, rfl, rfl, rfl, rfl, trivial⟩, [], rfl, .inl rfl⟩
        · refine go_ops hΓ 3 rfl ?_
          refine j_cond rfl (fun hb => ?_) (fun hb => ?_)
          · have h22 := cT h17 hb
            refine go hΓ 9 rfl ?_
            obtain ⟨v23, hv23, h24⟩ := bi_ok h22
            obtain rfl := Option.some.inj h24
            obtain rfl := hout12 _ rfl
            obtain rfl := Option.some.inj h7
            refine go hΓ 4 rfl ?_
            obtain rfl := Option.some.inj hv23
            exact fin_pure hΓ (.inr rfl) rfl rfl
          · have h25 := cF h17 hb
            refine go hΓ 10 rfl ?_
            refine j_cond rfl (fun hb => ?_) (fun hb => ?_)
            · have h26 := cT h25 hb
              refine go hΓ 9 rfl ?_
              obtain ⟨v27, hv27, h28⟩ := bi_ok h26
              obtain rfl := Option.some.inj h28
              obtain rfl := hout12 _ rfl
              obtain rfl := Option.some.inj h7
              refine go hΓ 4 rfl ?_
              obtain rfl := Option.some.inj hv27
              exact fin_pure hΓ (.inr rfl) rfl rfl
            · have h29 := cF h25 hb
              obtain ⟨y30, hy30, h31⟩ := bi_ok h29
              refine go hΓ 4 rfl ?_
              refine eo_callP (callable Tryd.func46 rfl rfl) (c_laneref1_in hy30) rfl (Nat.le_of_ble_eq_true rfl) rfl rfl rfl rfl rfl ?_
              refine go_ops hΓ 4 rfl ?_
              refine j_cond rfl (fun hb => ?_) (fun hb => ?_)
              · have h32 := cT h31 hb
                refine go hΓ 9 rfl ?_
                obtain ⟨v33, hv33, h34⟩ := bi_ok h32
                obtain rfl := Option.some.inj h34
                obtain rfl := hout12 _ rfl
                obtain rfl := Option.some.inj h7
                refine go hΓ 4 rfl ?_
                obtain rfl := Option.some.inj hv33
                exact fin_pure hΓ (.inr rfl) rfl rfl
              · have h35 := cF h31 hb
                obtain ⟨q36, hq36, h37⟩ := bi_ok h35
                refine go hΓ 1 rfl ?_
                refine j_cutNZ [(0, .d (Sl e_api_Link l)), (8, .d (Sl e_api_Link l)), (9, I (l.length : Int)), (10, I (i3 : Int)), (37, B q36)] [.box 80 [S x5.A, S x5.v_B, I x5.Millis]] ?_ ?_
                · refine j_drawE [.box 80 [S x5.A, S x5.v_B, I x5.Millis]] [10, 19] [] [] hmix (by kernel_rfl) (by kernel_rfl) ⟨rfl, trivial⟩ (Nat.le_of_ble_eq_true rfl) ?_
                  refine go_E hΓ 3 rfl ?_
                  refine ge_gsplit rfl rfl (fun hb => ?_) (fun hb => ?_)
                  · have h38 := cT hq36 hb
                    obtain ⟨x39, hx39, h40⟩ := bi_ok h38
                    refine go_E hΓ 3 rfl ?_
                    refine ge_q rfl (.inr ⟨_, _, rfl, rfl⟩) (fun _ _ => qte_of_qt (qt_p (op_elemZ hΓ (enc := e_api_Link) hx39 rfl rfl rfl rfl rfl (fun _ => rfl)))) ?_
                    obtain ⟨y41, hy41, h42⟩ := bi_ok h40
                    refine go_E hΓ 4 rfl ?_
                    refine ge_callPg rfl (callable Tryd.func49 rfl rfl) (c_strings_Compare hy41) rfl rfl rfl rfl rfl rfl ?_
                    obtain ⟨x43, hx43, h44⟩ := bi_ok h42
                    refine go_E hΓ 3 rfl ?_
                    refine ge_q rfl (.inr ⟨_, _, rfl, rfl⟩) (fun _ _ => qte_of_qt (qt_p (op_elemZ hΓ (enc := e_api_Link) hx43 rfl rfl rfl rfl rfl (fun _ => rfl)))) ?_
                    obtain ⟨y45, hy45, h46⟩ := bi_ok h44
                    refine go_E hΓ 4 rfl ?_
                    refine ge_callPg rfl (callable Tryd.func49 rfl rfl) (c_strings_Compare hy45) rfl rfl rfl rfl rfl rfl ?_
                    refine ge_litTg hΓ (enc := (eN .i64)) [y41, y45] rfl rfl rfl rfl rfl rfl rfl rfl rfl rfl rfl rfl rfl ?_
                    obtain ⟨y47, hy47, h48⟩ := bi_ok h46
                    refine ge_callPg rfl (callable Tryd.func47 rfl rfl) (c_cmp_Or_int hy47) rfl rfl rfl rfl rfl rfl ?_
                    refine go_E hΓ 3 rfl ?_
                    refine ge_fin ?_
                    obtain rfl := Option.some.inj h48
                    exact ⟨⟨rfl, rfl, rfl, rfl, rfl, trivial⟩, [], rfl, .inl rfl⟩
                  · have h49 := cF hq36 hb
                    refine go_E hΓ 23 rfl ?_
                    refine ge_fin ?_
                    obtain rfl := Option.some.inj h49
                    exact ⟨⟨rfl, rfl, rfl, rfl, rfl, trivial⟩, [], rfl, .inl rfl⟩
                · refine go hΓ 1 rfl ?_
                  refine j_cond rfl (fun hb => ?_) (fun hb => ?_)
                  · have h50 := cT h37 hb
                    refine go hΓ 9 rfl ?_
                    obtain ⟨v51, hv51, h52⟩ := bi_ok h50
                    obtain rfl := Option.some.inj h52
                    obtain rfl := hout12 _ rfl
                    obtain rfl := Option.some.inj h7
                    refine go hΓ 4 rfl ?_
                    obtain rfl := Option.some.inj hv51
                    exact fin_pure hΓ (.inr rfl) rfl rfl
                  · have h53 := cF h37 hb
                    refine go hΓ 8 rfl ?_
                    obtain rfl := Option.some.inj h53
                    exact ⟨_, rfl, ⟨⟨rfl, rfl, rfl, get_eq rfl (w64_succ (Nat.lt_of_lt_of_le hlt hb9)), trivial⟩, [_], rfl, .inr ⟨HB.mk rfl, FB.mk rfl, (Nat.le_of_ble_eq_true rfl)⟩⟩⟩
      · subst hgo
        refine go hΓ 6 rfl ?_
        refine j_condF rfl (decide_eq_false (Int.lt_irrefl _)) ?_
        refine go hΓ 4 rfl ?_
        exact ⟨_, rfl, ⟨trivial, [], rfl, .inl rfl⟩⟩
    · intro a8 ha
      subst ha
      replace h7 := goI_l h7
      refine go hΓ 7 rfl ?_
      obtain rfl := Option.some.inj h7
      exact fin_pure hΓ (.inr rfl) rfl rfl
theorem c_laneref1_keyFault {s : Str} {r : Int} (h : m_laneref1_keyFault s = some r) : Pure Tryd.prog 53 [S s] (I r) := by
  refine Pure.enter (Fr.of 0 _) Tryd.func53 rfl (Fr.of_ok _) rfl rfl ?_
  refine go_in ?_
  unfold m_laneref1_keyFault at h
  obtain ⟨y1, hy1, h2⟩ := bi_ok h
  refine go hΓ 9 rfl ?_
  refine eo_callP (callable Tryd.func45 rfl rfl) (c_laneref2_Key hy1) rfl (Nat.le_of_ble_eq_true rfl) rfl rfl rfl rfl rfl ?_
  refine go_ops hΓ 3 rfl ?_
  refine j_cond rfl (fun hb => ?_) (fun hb => ?_)
  · have h3 := cT h2 hb
    refine go hΓ 7 rfl ?_
    obtain rfl := Option.some.inj h3
    exact fin_pure hΓ (.inr rfl) rfl rfl
  · have h4 := cF h2 hb
    refine go hΓ 8 rfl ?_
    obtain rfl := Option.some.inj h4
    exact fin_pure hΓ (.inr rfl) rfl rfl
theorem c_laneref1_KeyFault {s : Str} {r : Int} (h : m_laneref1_KeyFault s = some r) : Pure Tryd.prog 16 [S s] (I r) := by
  refine Pure.enter (Fr.of 0 _) Tryd.func16 rfl (Fr.of_ok _) rfl rfl ?_
  refine go_in ?_
  unfold m_laneref1_KeyFault at h
  obtain ⟨y1, hy1, h2⟩ := bi_ok h
  refine go hΓ 8 rfl ?_
  refine eo_callP (callable Tryd.func53 rfl rfl) (c_laneref1_keyFault hy1) rfl (Nat.le_of_ble_eq_true rfl) rfl rfl rfl rfl rfl ?_
  refine go_ops hΓ 4 rfl ?_
  obtain rfl := Option.some.inj h2
  exact fin_pure hΓ (.inr rfl) rfl rfl
theorem c_cmp_Or_api_Errno {vals : List Int} {r : Int} (h : m_cmp_Or_api_Errno vals = some r) : Pure Tryd.prog 14 [.d (Sl (eN .i64) vals)] (I r) := by
  refine Pure.enter (Fr.of 0 _) Tryd.func14 rfl (Fr.of_ok _) rfl rfl ?_
  refine go_in ?_
  unfold m_cmp_Or_api_Errno at h
  refine go hΓ 18 rfl ?_
  obtain ⟨q4, hq4, h5⟩ := bi_ok h
  refine j_bound 6 rfl fun hb7 => ?_
  refine j_cutEZ (R := fun a6 => q4 = .go a6) (fun a6 => [(3, I 0)]) (fun a6 => []) ?_ ?_
  · refine go hΓ 1 rfl ?_
    refine j_range vals hq4 (fun i1 s2 => [(3, I 0), (6, .d (Sl (eN .i64) vals)), (7, I (vals.length : Int)), (8, I (i1 : Int))]) (fun s2 => []) ⟨⟨rfl, rfl, rfl, rfl, trivial⟩, [], rfl, .inl rfl⟩ (fun i1 x3 s2 y11 hx8 hlt hy9 hout10 => ?_) (fun s2 hgo => ?_)
    · refine go hΓ 6 rfl ?_
      refine j_condT rfl (decide_eq_true (Int.ofNat_lt.2 hlt)) ?_
      refine go hΓ 6 rfl ?_
      refine eo_o rfl (op_elemZ hΓ (enc := (eN .i64)) (getZ_nat hx8) rfl rfl rfl rfl rfl (fun _ => rfl)) ?_
      refine go_ops hΓ 11 rfl ?_
      refine j_cond rfl (fun hb => ?_) (fun hb => ?_)
      · have h12 := cT hy9 hb
        refine go hΓ 9 rfl ?_
        obtain ⟨v13, hv13, h14⟩ := bi_ok h12
        obtain rfl := Option.some.inj h14
        obtain rfl := hout10 _ rfl
        obtain rfl := Option.some.inj h5
        refine go hΓ 4 rfl ?_
        obtain rfl := Option.some.inj hv13
        exact fin_pure hΓ (.inr rfl) rfl rfl
      · have h15 := cF hy9 hb
        refine go hΓ 7 rfl ?_
        obtain rfl := Option.some.inj h15
        exact ⟨_, rfl, ⟨⟨rfl, rfl, rfl, get_eq rfl (w64_succ (Nat.lt_of_lt_of_le hlt hb7)), trivial⟩, [], rfl, .inl rfl⟩⟩
    · subst hgo
      refine go hΓ 6 rfl ?_
      refine j_condF rfl (decide_eq_false (Int.lt_irrefl _)) ?_
      refine go hΓ 4 rfl ?_
      exact ⟨_, rfl, ⟨⟨rfl, trivial⟩, [], rfl, .inl rfl⟩⟩
  · intro a6 ha
    subst ha
    replace h5 := goI_l h5
    refine go hΓ 8 rfl ?_
    obtain rfl := Option.some.inj h5
    exact fin_pure hΓ (.inr rfl) rfl rfl
theorem c_slices_Index_string_string {s : List Str} {v : Str} {r : Int} (h : m_slices_Index_string_string s v = some r) : Pure Tryd.prog 78 [.d (Sl eS s), S v] (I r) := by
  refine Pure.enter (Fr.of 0 _) Tryd.func78 rfl (Fr.of_ok _) rfl rfl ?_
  refine go_in ?_
  unfold m_slices_Index_string_string at h
  refine go hΓ 13 rfl ?_
  obtain ⟨q4, hq4, h5⟩ := bi_ok h
  refine j_bound 0 rfl fun hb7 => ?_
  refine j_cutEZ (R := fun a6 => q4 = .go a6) (fun a6 => []) (fun a6 => []) ?_ ?_
  · refine go hΓ 1 rfl ?_
    refine j_range s hq4 (fun i1 s2 => [(0, .d (Sl eS s)), (1, S v), (7, I (s.length : Int)), (8, I (i1 : Int))]) (fun s2 => []) ⟨⟨rfl, rfl, rfl, rfl, trivial⟩, [], rfl, .inl rfl⟩ (fun i1 x3 s2 y11 hx8 hlt hy9 hout10 => ?_) (fun s2 hgo => ?_)
    · refine go hΓ 6 rfl ?_
      refine j_condT rfl (decide_eq_true (Int.ofNat_lt.2 hlt)) ?_
      refine go hΓ 15 rfl ?_
      refine eo_o rfl (op_elemZ hΓ (enc := eS) (getZ_nat hx8) rfl rfl rfl rfl rfl (fun _ => rfl)) ?_
      refine go_ops hΓ 4 rfl ?_
      refine j_cond rfl (fun hb => ?_) (fun hb => ?_)
      · have h12 := cT hy9 hb
        refine go hΓ 9 rfl ?_
        obtain ⟨v13, hv13, h14⟩ := bi_ok h12
        obtain rfl := Option.some.inj h14
        obtain rfl := hout10 _ rfl
        obtain rfl := Option.some.inj h5
        refine go hΓ 4 rfl ?_
        obtain rfl := Option.some.inj hv13
        exact fin_pure hΓ (.inr rfl) rfl rfl
      · have h15 := cF hy9 hb
        refine go hΓ 7 rfl ?_
        obtain rfl := Option.some.inj h15
        exact ⟨_, rfl, ⟨⟨rfl, rfl, rfl, get_eq rfl (w64_succ (Nat.lt_of_lt_of_le hlt hb7)), trivial⟩, [], rfl, .inl rfl⟩⟩
    · subst hgo
      refine go hΓ 6 rfl ?_
      refine j_condF rfl (decide_eq_false (Int.lt_irrefl _)) ?_
      refine go hΓ 4 rfl ?_
      exact ⟨_, rfl, ⟨trivial, [], rfl, .inl rfl⟩⟩
  · intro a6 ha
    subst ha
    replace h5 := goI_l h5
    refine go hΓ 7 rfl ?_
    obtain rfl := Option.some.inj h5
    exact fin_pure hΓ (.inr rfl) rfl rfl
theorem c_slices_Contains_string_string {s : List Str} {v : Str} {r : Bool} (h : m_slices_Contains_string_string s v = some r) : Pure Tryd.prog 57 [.d (Sl eS s), S v] (B r) := by
  refine Pure.enter (Fr.of 0 _) Tryd.func57 rfl (Fr.of_ok _) rfl rfl ?_
  refine go_in ?_
  unfold m_slices_Contains_string_string at h
  obtain ⟨y1, hy1, h2⟩ := bi_ok h
  refine go hΓ 9 rfl ?_
  refine eo_callP (callable Tryd.func78 rfl rfl) (c_slices_Index_string_string hy1) rfl (Nat.le_of_ble_eq_true rfl) rfl rfl rfl rfl rfl ?_
  refine go_ops hΓ 5 rfl ?_
  obtain rfl := Option.some.inj h2
  exact fin_pure hΓ (.inr rfl) rfl rfl
theorem c_slices_Clone_string_string {s : List Str} {r : List Str} (h : m_slices_Clone_string_string s = some r) : EC Tryd.prog 58 [.d (Sl eS s)] [] fun g hp' => g = .sl 0 r.length ∧ hp' = [.row 9 1 r.length (r.flatMap eS)] := by
  refine ec_enterC (Fr.of 0 _) Tryd.func58 rfl (Fr.of_ok _) (Nat.le_of_ble_eq_true rfl) fun _ => ?_
  refine go_in ?_
  unfold m_slices_Clone_string_string at h
  refine go hΓ 2 rfl ?_
  refine eo_nilOwn (t := 0) 9 1 rfl (Nat.le_of_ble_eq_true rfl) ?_
  refine go_ops hΓ 6 rfl ?_
  refine eo_isNil hΓ rfl rfl rfl rfl rfl fun b hbn => ?_
  rcases b with _ | _
  · refine go_ops hΓ 7 rfl ?_
    refine eo_litRowT hΓ (enc := eS) ([] : List Str) rfl rfl rfl rfl rfl rfl rfl rfl rfl rfl rfl rfl (Nat.le_of_ble_eq_true rfl) ?_
    obtain ⟨y1, hy1, h2⟩ := bi_ok h
    refine go_ops hΓ 1 rfl ?_
    refine eo_appendT hΓ (enc := eS) hy1 rfl rfl rfl rfl rfl rfl rfl rfl rfl (fun _ => rfl) rfl rfl rfl rfl ?_
    refine go_ops hΓ 4 rfl ?_
    refine cv_kill 0 [.dead, .row 9 1 y1.length (y1.flatMap eS)] rfl (Nat.le_of_ble_eq_true rfl) ?_
    refine cv_move 1 0 [.row 9 1 y1.length (y1.flatMap eS), .dead] rfl rfl rfl rfl rfl rfl ?_
    refine cv_here ?_
    obtain rfl := Option.some.inj h2
    exact fin_objs hΓ [_] (.inr rfl) rfl rfl rfl rfl (.inr ⟨HB.mk rfl, rfl⟩)
  · obtain rfl := List.eq_nil_of_length_eq_zero (hbn rfl).1
    replace h : (some ([] : List Str) : Option (List Str)) = some r := h
    refine go_ops hΓ 5 rfl ?_
    refine eo_nilOwn (t := 0) 9 1 rfl (Nat.le_of_ble_eq_true rfl) ?_
    refine go_ops hΓ 4 rfl ?_
    refine cv_kill 0 [.dead, .row 9 1 ([] : List Str).length (([] : List Str).flatMap eS)] rfl (Nat.le_of_ble_eq_true rfl) ?_
    refine cv_move 1 0 [.row 9 1 ([] : List Str).length (([] : List Str).flatMap eS), .dead] rfl rfl rfl rfl rfl rfl ?_
    refine cv_here ?_
    obtain rfl := Option.some.inj h
    exact fin_objs hΓ [_] (.inr rfl) rfl rfl rfl rfl (.inr ⟨HB.mk rfl, rfl⟩)
theorem c_cmp_isNaN_int {x : Int} {r : Bool} (h : m_cmp_isNaN_int x = some r) : Pure Tryd.prog 74 [I x] (B r) := by
  refine Pure.enter (Fr.of 0 _) Tryd.func74 rfl (Fr.of_ok _) rfl rfl ?_
  refine go_in ?_
  unfold m_cmp_isNaN_int at h
  refine go hΓ 14 rfl ?_
  obtain rfl := Option.some.inj h
  exact fin_pure hΓ (.inr rfl) rfl rfl
theorem c_cmp_Compare_int {x : Int} {y : Int} {r : Int} (h : m_cmp_Compare_int x y = some r) : Pure Tryd.prog 48 [I x, I y] (I r) := by
  refine Pure.enter (Fr.of 0 _) Tryd.func48 rfl (Fr.of_ok _) rfl rfl ?_
  refine go_in ?_
  unfold m_cmp_Compare_int at h
  obtain ⟨y1, hy1, h2⟩ := bi_ok h
  refine go hΓ 8 rfl ?_
  refine eo_callP (callable Tryd.func74 rfl rfl) (c_cmp_isNaN_int hy1) rfl (Nat.le_of_ble_eq_true rfl) rfl rfl rfl rfl rfl ?_
  obtain ⟨y3, hy3, h4⟩ := bi_ok h2
  refine go_ops hΓ 6 rfl ?_
  refine eo_callP (callable Tryd.func74 rfl rfl) (c_cmp_isNaN_int hy3) rfl (Nat.le_of_ble_eq_true rfl) rfl rfl rfl rfl rfl ?_
  refine go_ops hΓ 9 rfl ?_
  refine j_cond rfl (fun hb => ?_) (fun hb => ?_)
  · have h5 := cT h4 hb
    refine go hΓ 6 rfl ?_
    refine j_cond rfl (fun hb => ?_) (fun hb => ?_)
    · have h6 := cT h5 hb
      refine go hΓ 8 rfl ?_
      obtain rfl := Option.some.inj h6
      exact fin_pure hΓ (.inr rfl) rfl rfl
    · have h7 := cF h5 hb
      refine go hΓ 9 rfl ?_
      obtain rfl := Option.some.inj h7
      exact fin_pure hΓ (.inr rfl) rfl rfl
  · have h8 := cF h4 hb
    refine go hΓ 8 rfl ?_
    refine j_cond rfl (fun hb => ?_) (fun hb => ?_)
    · have h9 := cT h8 hb
      refine go hΓ 7 rfl ?_
      obtain rfl := Option.some.inj h9
      exact fin_pure hΓ (.inr rfl) rfl rfl
    · have h10 := cF h8 hb
      refine go hΓ 10 rfl ?_
      refine j_cond rfl (fun hb => ?_) (fun hb => ?_)
      · have h11 := cT h10 hb
        refine go hΓ 7 rfl ?_
        obtain rfl := Option.some.inj h11
        exact fin_pure hΓ (.inr rfl) rfl rfl
      · have h12 := cF h10 hb
        refine go hΓ 10 rfl ?_
        refine j_cond rfl (fun hb => ?_) (fun hb => ?_)
        · have h13 := cT h12 hb
          refine go hΓ 7 rfl ?_
          obtain rfl := Option.some.inj h13
          exact fin_pure hΓ (.inr rfl) rfl rfl
        · have h14 := cF h12 hb
          refine go hΓ 8 rfl ?_
          obtain rfl := Option.some.inj h14
          exact fin_pure hΓ (.inr rfl) rfl rfl
theorem c_cmp_isNaN_string {x : Str} {r : Bool} (h : m_cmp_isNaN_string x = some r) : Pure Tryd.prog 105 [S x] (B r) := by
  refine Pure.enter (Fr.of 0 _) Tryd.func105 rfl (Fr.of_ok _) rfl rfl ?_
  refine go_in ?_
  unfold m_cmp_isNaN_string at h
  refine go hΓ 14 rfl ?_
  obtain rfl := Option.some.inj h
  exact fin_pure hΓ (.inr rfl) rfl rfl
theorem c_cmp_Compare_string {x : Str} {y : Str} {r : Int} (h : m_cmp_Compare_string x y = some r) : Pure Tryd.prog 86 [S x, S y] (I r) := by
  refine Pure.enter (Fr.of 0 _) Tryd.func86 rfl (Fr.of_ok _) rfl rfl ?_
  refine go_in ?_
  unfold m_cmp_Compare_string at h
  obtain ⟨y1, hy1, h2⟩ := bi_ok h
  refine go hΓ 8 rfl ?_
  refine eo_callP (callable Tryd.func105 rfl rfl) (c_cmp_isNaN_string hy1) rfl (Nat.le_of_ble_eq_true rfl) rfl rfl rfl rfl rfl ?_
  obtain ⟨y3, hy3, h4⟩ := bi_ok h2
  refine go_ops hΓ 6 rfl ?_
  refine eo_callP (callable Tryd.func105 rfl rfl) (c_cmp_isNaN_string hy3) rfl (Nat.le_of_ble_eq_true rfl) rfl rfl rfl rfl rfl ?_
  refine go_ops hΓ 9 rfl ?_
  refine j_cond rfl (fun hb => ?_) (fun hb => ?_)
  · have h5 := cT h4 hb
    refine go hΓ 6 rfl ?_
    refine j_cond rfl (fun hb => ?_) (fun hb => ?_)
    · have h6 := cT h5 hb
      refine go hΓ 8 rfl ?_
      obtain rfl := Option.some.inj h6
      exact fin_pure hΓ (.inr rfl) rfl rfl
    · have h7 := cF h5 hb
      refine go hΓ 9 rfl ?_
      obtain rfl := Option.some.inj h7
      exact fin_pure hΓ (.inr rfl) rfl rfl
  · have h8 := cF h4 hb
    refine go hΓ 8 rfl ?_
    refine j_cond rfl (fun hb => ?_) (fun hb => ?_)
    · have h9 := cT h8 hb
      refine go hΓ 7 rfl ?_
      obtain rfl := Option.some.inj h9
      exact fin_pure hΓ (.inr rfl) rfl rfl
    · have h10 := cF h8 hb
      refine go hΓ 10 rfl ?_
      refine j_cond rfl (fun hb => ?_) (fun hb => ?_)
      · have h11 := cT h10 hb
        refine go hΓ 7 rfl ?_
        obtain rfl := Option.some.inj h11
        exact fin_pure hΓ (.inr rfl) rfl rfl
      · have h12 := cF h10 hb
        refine go hΓ 10 rfl ?_
        refine j_cond rfl (fun hb => ?_) (fun hb => ?_)
        · have h13 := cT h12 hb
          refine go hΓ 7 rfl ?_
          obtain rfl := Option.some.inj h13
          exact fin_pure hΓ (.inr rfl) rfl rfl
        · have h14 := cF h12 hb
          refine go hΓ 8 rfl ?_
          obtain rfl := Option.some.inj h14
          exact fin_pure hΓ (.inr rfl) rfl rfl
set_option maxHeartbeats 8000000 in
theorem c_slices_Compare_string_string {s1 : List Str} {s2 : List Str} {r : Int} (h : m_slices_Compare_string_string s1 s2 = some r) : Pure Tryd.prog 79 [.d (Sl eS s1), .d (Sl eS s2)] (I r) := by
  refine Pure.enter (Fr.of 0 _) Tryd.func79 rfl (Fr.of_ok _) rfl rfl ?_
  refine go_in ?_
  unfold m_slices_Compare_string_string at h
  refine go hΓ 13 rfl ?_
  obtain ⟨q5, hq5, h6⟩ := bi_ok h
  refine j_bound 0 rfl fun hb8 => ?_
  refine j_cutEZ (R := fun a7 => q5 = .go a7) (fun a7 => [(0, .d (Sl eS s1)), (1, .d (Sl eS s2))]) (fun a7 => []) ?_ ?_
  · refine go hΓ 1 rfl ?_
    refine j_range s1 hq5 (fun i1 s3 => [(0, .d (Sl eS s1)), (1, .d (Sl eS s2)), (9, .d (Sl eS s1)), (10, I (s1.length : Int)), (11, I (i1 : Int))]) (fun s3 => []) ⟨⟨rfl, rfl, rfl, rfl, rfl, trivial⟩, [], rfl, .inl rfl⟩ (fun i1 x4 s3 y12 hx9 hlt hy10 hout11 => ?_) (fun s3 hgo => ?_)
    · refine go hΓ 6 rfl ?_
      refine j_condT rfl (decide_eq_true (Int.ofNat_lt.2 hlt)) ?_
      refine go hΓ 7 rfl ?_
      refine eo_o rfl (op_elemZ hΓ (enc := eS) (getZ_nat hx9) rfl rfl rfl rfl rfl (fun _ => rfl)) ?_
      refine go_ops hΓ 14 rfl ?_
      refine j_cond rfl (fun hb => ?_) (fun hb => ?_)
      · have h13 := cT hy10 hb
        refine go hΓ 9 rfl ?_
        obtain ⟨v14, hv14, h15⟩ := bi_ok h13
        obtain rfl := Option.some.inj h15
        obtain rfl := hout11 _ rfl
        obtain rfl := Option.some.inj h6
        refine go hΓ 4 rfl ?_
        obtain rfl := Option.some.inj hv14
        exact fin_pure hΓ (.inr rfl) rfl rfl
      · have h16 := cF hy10 hb
        obtain ⟨x17, hx17, h18⟩ := bi_ok h16
        refine go hΓ 6 rfl ?_
        refine eo_o rfl (op_elemZ hΓ (enc := eS) hx17 rfl rfl rfl rfl rfl (fun _ => rfl)) ?_
        obtain ⟨y19, hy19, h20⟩ := bi_ok h18
        refine go_ops hΓ 8 rfl ?_
        refine eo_callP (callable Tryd.func86 rfl rfl) (c_cmp_Compare_string hy19) rfl (Nat.le_of_ble_eq_true rfl) rfl rfl rfl rfl rfl ?_
        refine go_ops hΓ 9 rfl ?_
        refine j_cond rfl (fun hb => ?_) (fun hb => ?_)
        · have h21 := cT h20 hb
          refine go hΓ 9 rfl ?_
          obtain ⟨v22, hv22, h23⟩ := bi_ok h21
          obtain rfl := Option.some.inj h23
          obtain rfl := hout11 _ rfl
          obtain rfl := Option.some.inj h6
          refine go hΓ 4 rfl ?_
          obtain rfl := Option.some.inj hv22
          exact fin_pure hΓ (.inr rfl) rfl rfl
        · have h24 := cF h20 hb
          refine go hΓ 7 rfl ?_
          obtain rfl := Option.some.inj h24
          exact ⟨_, rfl, ⟨⟨rfl, rfl, rfl, rfl, get_eq rfl (w64_succ (Nat.lt_of_lt_of_le hlt hb8)), trivial⟩, [], rfl, .inl rfl⟩⟩
    · subst hgo
      refine go hΓ 6 rfl ?_
      refine j_condF rfl (decide_eq_false (Int.lt_irrefl _)) ?_
      refine go hΓ 4 rfl ?_
      exact ⟨_, rfl, ⟨⟨rfl, rfl, trivial⟩, [], rfl, .inl rfl⟩⟩
  · intro a7 ha
    subst ha
    replace h6 := goI_l h6
    refine go hΓ 11 rfl ?_
    refine j_cond rfl (fun hb => ?_) (fun hb => ?_)
    · have h25 := cT h6 hb
      refine go hΓ 7 rfl ?_
      obtain rfl := Option.some.inj h25
      exact fin_pure hΓ (.inr rfl) rfl rfl
    · have h26 := cF h6 hb
      refine go hΓ 8 rfl ?_
      obtain rfl := Option.some.inj h26
      exact fin_pure hΓ (.inr rfl) rfl rfl
theorem c_laneref1_lessTrail {a : T_laneref1_trail} {b : T_laneref1_trail} {r : Bool} (h : m_laneref1_lessTrail a b = some r) : Pure Tryd.prog 59 [.agg [.d (Sl eS a.relays), I a.millis], .agg [.d (Sl eS b.relays), I b.millis]] (B r) := by
  refine Pure.enter (Fr.of 0 _) Tryd.func59 rfl (Fr.of_ok _) rfl rfl ?_
  refine go_in ?_
  unfold m_laneref1_lessTrail at h
  refine go hΓ 2 rfl ?_
  refine eo_box rfl rfl rfl rfl (Nat.le_of_ble_eq_true rfl) ?_
  refine eo_box rfl rfl rfl rfl (Nat.le_of_ble_eq_true rfl) ?_
  refine go_ops hΓ 4 rfl ?_
  refine j_draw hmix (by kernel_rfl) ?_
  obtain ⟨y1, hy1, h2⟩ := bi_ok h
  refine go hΓ 4 rfl ?_
  refine gl_callP (callable Tryd.func48 rfl rfl) (c_cmp_Compare_int hy1) rfl rfl rfl rfl rfl rfl ?_
  obtain ⟨y3, hy3, h4⟩ := bi_ok h2
  refine go_draw hΓ 6 rfl ?_
  refine gl_callP (callable Tryd.func48 rfl rfl) (c_cmp_Compare_int hy3) rfl rfl rfl rfl rfl rfl ?_
  obtain ⟨y5, hy5, h6⟩ := bi_ok h4
  refine go_draw hΓ 4 rfl ?_
  refine gl_callP (callable Tryd.func79 rfl rfl) (c_slices_Compare_string_string hy5) rfl rfl rfl rfl rfl rfl ?_
  refine gl_litT hΓ (enc := (eN .i64)) [y1, y3, y5] rfl rfl rfl rfl rfl rfl rfl rfl rfl rfl rfl rfl ?_
  obtain ⟨y7, hy7, h8⟩ := bi_ok h6
  refine gl_callP (callable Tryd.func47 rfl rfl) (c_cmp_Or_int hy7) rfl rfl rfl rfl rfl rfl ?_
  refine go_draw hΓ 5 rfl ?_
  obtain rfl := Option.some.inj h8
  exact fin_pure hΓ (.inr rfl) rfl rfl
set_option maxHeartbeats 8000000 in
theorem c_laneref1_TrailOf {k : Nat} {l : List T_api_Link} {a : Str} {b : Str} {r : (List Str) × Int × Bool} (h : m_laneref1_TrailOf k l a b = some r) : Pure Tryd.prog 27 [.d (Sl e_api_Link l), S a, S b] (.tup [.d (Sl eS r.1), I r.2.1, B r.2.2]) := by
  refine Pure.enter (Fr.of 0 _) Tryd.func27 rfl (Fr.of_ok _) rfl rfl ?_
  refine go_in ?_
  unfold m_laneref1_TrailOf at h
  refine go hΓ 9 rfl ?_
  refine eo_s (Nat.le_of_ble_eq_true rfl) (nblt.1 rfl) (ops_makeMap true) ?_
  refine eo_hp [mOb kS true e_laneref1_trail ([] : List (Str × T_laneref1_trail))] rfl ?_
  refine go_ops hΓ 2 rfl ?_
  refine eo_litT hΓ (enc := eS) [a] rfl rfl rfl rfl rfl rfl rfl rfl rfl rfl rfl rfl (Nat.le_of_ble_eq_true rfl) ?_
  refine eo_build hΓ (gs := [.d (Sl eS [a]), I 0]) rfl rfl rfl rfl rfl rfl rfl ?_
  refine eo_u (Nat.le_of_ble_eq_true rfl) (opu_insert hΓ (kv := kS) (agg := true) (enc := e_laneref1_trail) (id := 0) ([] : List (Str × T_laneref1_trail)) a (⟨[a], 0⟩ : T_laneref1_trail) rfl rfl rfl key_str rfl rfl rfl rfl rfl) ?_
  refine eo_hp [mOb kS true e_laneref1_trail (mSet ([] : List (Str × T_laneref1_trail)) a (⟨[a], 0⟩ : T_laneref1_trail))] rfl ?_
  refine go_ops hΓ 10 rfl ?_
  obtain ⟨q4, hq4, h5⟩ := bi_ok h
  refine j_cutNZ [(2, S b), (9, .map 0)] [mOb kS true e_laneref1_trail q4] ?_ ?_
  · refine go hΓ 1 rfl ?_
    refine j_loop hq4 (fun s2 => [(0, .d (Sl e_api_Link l)), (2, S b), (9, .map 0), (10, B s2.2)]) (fun s2 => [mOb kS true e_laneref1_trail s2.1]) ⟨⟨rfl, rfl, rfl, rfl, trivial⟩, [], rfl, .inl rfl⟩ (fun s2 y10 hy8 hout9 => ?_)
    refine go hΓ 6 rfl ?_
    refine j_cond rfl (fun hb => ?_) (fun hb => ?_)
    · have h11 := cT hy8 hb
      refine go hΓ 15 rfl ?_
      obtain ⟨q15, hq15, h16⟩ := bi_ok h11
      refine j_bound 0 rfl fun hb18 => ?_
      refine j_cutNZ [(0, .d (Sl e_api_Link l)), (2, S b), (9, .map 0), (10, B q15.2)] [mOb kS true e_laneref1_trail q15.1] ?_ ?_
      · refine go hΓ 1 rfl ?_
        refine j_rangeF l hq15 (fun i12 s13 => [(0, .d (Sl e_api_Link l)), (2, S b), (9, .map 0), (10, B s13.2), (29, .d (Sl e_api_Link l)), (30, I (l.length : Int)), (31, I (i12 : Int))]) (fun s13 => [mOb kS true e_laneref1_trail s13.1]) ⟨⟨rfl, rfl, rfl, rfl, rfl, rfl, rfl, trivial⟩, [], rfl, .inl rfl⟩ (fun i12 x14 s13 y22 hx19 hlt hy20 => ?_) (?_)
        · refine go hΓ 6 rfl ?_
          refine j_condT rfl (decide_eq_true (Int.ofNat_lt.2 hlt)) ?_
          refine go hΓ 6 rfl ?_
          refine eo_o rfl (op_elemZ hΓ (enc := e_api_Link) (getZ_nat hx19) rfl rfl rfl rfl rfl (fun _ => rfl)) ?_
          refine go_ops hΓ 1 rfl ?_
          refine eo_alloc hΓ rfl rfl rfl (Nat.le_of_ble_eq_true rfl) ?_
          refine eo_store hΓ rfl rfl rfl rfl rfl rfl rfl rfl (Nat.le_of_ble_eq_true rfl) ?_
          refine eo_hp [mOb kS true e_laneref1_trail s13.1, .box 80 [S x14.A, S x14.v_B, I x14.Millis]] rfl ?_
          refine go_ops hΓ 8 rfl ?_
          refine eo_o rfl (op_buildA hΓ (gs := [S x14.A, S x14.v_B]) rfl rfl rfl rfl rfl rfl) ?_
          refine go_ops hΓ 4 rfl ?_
          refine eo_o rfl (op_buildA hΓ (gs := [S x14.v_B, S x14.A]) rfl rfl rfl rfl rfl rfl) ?_
          refine eo_litT hΓ (enc := (fun z => [.v (.string ⟨z.1.toArray⟩), .v (.string ⟨z.2.toArray⟩)])) [(x14.A, x14.v_B), (x14.v_B, x14.A)] rfl rfl rfl rfl rfl rfl rfl rfl rfl rfl rfl rfl (Nat.le_of_ble_eq_true rfl) ?_
          refine go_ops hΓ 4 rfl ?_
          obtain ⟨q26, hq26, h27⟩ := bi_ok hy20
          refine j_bound 45 rfl fun hb29 => ?_
          refine j_cutNZ [(0, .d (Sl e_api_Link l)), (2, S b), (9, .map 0), (10, B q26.2), (29, .d (Sl e_api_Link l)), (30, I (l.length : Int)), (31, I (i12 : Int))] [mOb kS true e_laneref1_trail q26.1, .box 80 [S x14.A, S x14.v_B, I x14.Millis]] ?_ ?_
          · refine go hΓ 1 rfl ?_
            refine j_rangeF [(x14.A, x14.v_B), (x14.v_B, x14.A)] hq26 (fun i23 s24 => [(0, .d (Sl e_api_Link l)), (2, S b), (9, .map 0), (10, B s24.2), (12, .ptr 1 0), (29, .d (Sl e_api_Link l)), (30, I (l.length : Int)), (31, I (i12 : Int)), (45, .d (Sl (fun z => [.v (.string ⟨z.1.toArray⟩), .v (.string ⟨z.2.toArray⟩)]) [(x14.A, x14.v_B), (x14.v_B, x14.A)])), (46, I ([(x14.A, x14.v_B), (x14.v_B, x14.A)].length : Int)), (47, I (i23 : Int))]) (fun s24 => [mOb kS true e_laneref1_trail s24.1, .box 80 [S x14.A, S x14.v_B, I x14.Millis]]) ⟨⟨rfl, rfl, rfl, rfl, rfl, rfl, rfl, rfl, rfl, rfl, rfl, trivial⟩, [], rfl, .inl rfl⟩ (fun i23 x25 s24 y33 hx30 hlt hy31 => ?_) (?_)
            · refine go hΓ 6 rfl ?_
              refine j_condT rfl (decide_eq_true (Int.ofNat_lt.2 hlt)) ?_
              refine go hΓ 6 rfl ?_
              refine eo_o rfl (op_elemZ hΓ (enc := (fun z => [.v (.string ⟨z.1.toArray⟩), .v (.string ⟨z.2.toArray⟩)])) (getZ_nat hx30) rfl rfl rfl rfl rfl (fun _ => rfl)) ?_
              refine go_ops hΓ 1 rfl ?_
              refine eo_alloc hΓ rfl rfl rfl (Nat.le_of_ble_eq_true rfl) ?_
              refine eo_store hΓ rfl rfl rfl rfl rfl rfl rfl rfl (Nat.le_of_ble_eq_true rfl) ?_
              refine eo_hp [mOb kS true e_laneref1_trail s24.1, .box 80 [S x14.A, S x14.v_B, I x14.Millis], .box 84 [S x25.1, S x25.2]] rfl ?_
              refine go_ops hΓ 5 rfl ?_
              refine eo_o rfl (op_elemArr hΓ (l := List.replicate 2 ()) (z := ()) rfl rfl rfl rfl rfl rfl rfl) ?_
              refine go_ops hΓ 1 rfl ?_
              refine eo_o rfl (op_lookupOk hΓ (kv := kS) (agg := true) (enc := e_laneref1_trail) s24.1 x25.1 ((⟨[], 0⟩ : T_laneref1_trail) : T_laneref1_trail) rfl rfl rfl rfl key_str rfl rfl rfl rfl rfl rfl rfl) ?_
              refine go_ops hΓ 3 rfl ?_
              refine eo_alloc hΓ rfl rfl rfl (Nat.le_of_ble_eq_true rfl) ?_
              refine eo_store hΓ rfl rfl rfl rfl rfl rfl rfl rfl (Nat.le_of_ble_eq_true rfl) ?_
              refine eo_hp [mOb kS true e_laneref1_trail s24.1, .box 80 [S x14.A, S x14.v_B, I x14.Millis], .box 84 [S x25.1, S x25.2], .box 82 [.d (Sl eS (((mGet s24.1 x25.1).getD (⟨[], 0⟩ : T_laneref1_trail)).relays)), I (((mGet s24.1 x25.1).getD (⟨[], 0⟩ : T_laneref1_trail)).millis)]] rfl ?_
              refine go_ops hΓ 9 rfl ?_
              obtain ⟨q34, hq34, h35⟩ := bi_ok hy31
              refine o_cut 6 [(0, .d (Sl e_api_Link l)), (2, S b), (9, .map 0), (10, B s24.2), (12, .ptr 1 0), (14, .ptr 2 0), (15, .ptr 3 0), (29, .d (Sl e_api_Link l)), (30, I (l.length : Int)), (31, I (i12 : Int)), (45, .d (Sl (fun z => [.v (.string ⟨z.1.toArray⟩), .v (.string ⟨z.2.toArray⟩)]) [(x14.A, x14.v_B), (x14.v_B, x14.A)])), (46, I ([(x14.A, x14.v_B), (x14.v_B, x14.A)].length : Int)), (47, I (i23 : Int)), (66, B q34)] [mOb kS true e_laneref1_trail s24.1, .box 80 [S x14.A, S x14.v_B, I x14.Millis], .box 84 [S x25.1, S x25.2], .box 82 [.d (Sl eS (((mGet s24.1 x25.1).getD (⟨[], 0⟩ : T_laneref1_trail)).relays)), I (((mGet s24.1 x25.1).getD (⟨[], 0⟩ : T_laneref1_trail)).millis)]] ?_ ?_
              · refine eo_gsplit rfl rfl (fun hb => ?_) (fun hb => ?_)
                · have h36 := cT hq34 hb
                  refine go_ops hΓ 7 rfl ?_
                  obtain rfl := Option.some.inj h36
                  exact ⟨⟨rfl, rfl, rfl, rfl, rfl, rfl, rfl, rfl, rfl, rfl, rfl, rfl, rfl, rfl, trivial⟩, [], rfl, .inl rfl⟩
                · have h37 := cF hq34 hb
                  refine go_ops hΓ 2 rfl ?_
                  refine eo_guard rfl ?_
                  refine eo_o rfl (op_elemArr hΓ (l := List.replicate 2 ()) (z := ()) rfl rfl rfl rfl rfl rfl rfl) ?_
                  obtain ⟨y38, hy38, h39⟩ := bi_ok h37
                  refine go_ops hΓ 1 rfl ?_
                  refine eo_guard rfl ?_
                  refine eo_callP (callable Tryd.func57 rfl rfl) (c_slices_Contains_string_string hy38) rfl (Nat.le_of_ble_eq_true rfl) rfl rfl rfl rfl rfl ?_
                  refine go_ops hΓ 2 rfl ?_
                  obtain rfl := Option.some.inj h39
                  exact ⟨⟨rfl, rfl, rfl, rfl, rfl, rfl, rfl, rfl, rfl, rfl, rfl, rfl, rfl, rfl, trivial⟩, [], rfl, .inl rfl⟩
              · refine go_ops hΓ 2 rfl ?_
                refine j_cond rfl (fun hb => ?_) (fun hb => ?_)
                · have h40 := cT h35 hb
                  refine go hΓ 8 rfl ?_
                  obtain rfl := Option.some.inj h40
                  exact ⟨⟨rfl, rfl, rfl, rfl, rfl, rfl, rfl, rfl, rfl, rfl, get_eq rfl (w64_succ (Nat.lt_of_lt_of_le hlt hb29)), trivial⟩, [_, _], rfl, .inr ⟨HB.mk rfl, FB.mk rfl, (Nat.le_of_ble_eq_true rfl)⟩⟩
                · have h41 := cF h35 hb
                  refine go hΓ 3 rfl ?_
                  refine j_drawE [.dead, .box 80 [S x14.A, S x14.v_B, I x14.Millis], .box 84 [S x25.1, S x25.2], .box 82 [.d (Sl eS (((mGet s24.1 x25.1).getD (⟨[], 0⟩ : T_laneref1_trail)).relays)), I (((mGet s24.1 x25.1).getD (⟨[], 0⟩ : T_laneref1_trail)).millis)]] [1, 4, 8, 10] [2, 6, 14] [15013] hmix (by kernel_rfl) (by kernel_rfl) ⟨rfl, rfl, rfl, trivial⟩ (Nat.le_of_ble_eq_true rfl) ?_
                  obtain ⟨y42, hy42, h43⟩ := bi_ok h41
                  refine go_E hΓ 2 rfl ?_
                  refine ge_h [mOb kS true e_laneref1_trail s24.1, .box 80 [S x14.A, S x14.v_B, I x14.Millis], .box 84 [S x25.1, S x25.2], .box 82 [.d (Sl eS (((mGet s24.1 x25.1).getD (⟨[], 0⟩ : T_laneref1_trail)).relays)), I (((mGet s24.1 x25.1).getD (⟨[], 0⟩ : T_laneref1_trail)).millis)], .row 9 1 y42.length (y42.flatMap eS)] rfl rfl rfl (st_st ⟨rfl, rfl, rfl, trivial⟩) (qte_callF [] (.sl 4 y42.length) [mOb kS true e_laneref1_trail s24.1, .box 80 [S x14.A, S x14.v_B, I x14.Millis], .box 84 [S x25.1, S x25.2], .box 82 [.d (Sl eS (((mGet s24.1 x25.1).getD (⟨[], 0⟩ : T_laneref1_trail)).relays)), I (((mGet s24.1 x25.1).getD (⟨[], 0⟩ : T_laneref1_trail)).millis)], .row 9 1 y42.length (y42.flatMap eS)] (callable Tryd.func58 rfl rfl) (c_slices_Clone_string_string hy42) rfl rfl rfl rfl rfl rfl rfl rfl rfl rfl) ?_
                  refine ge_q rfl (.inl rfl) (fun _ _ => qte_of_qt (qt_p (op_elemArr hΓ (l := List.replicate 2 ()) (z := ()) rfl rfl rfl rfl rfl rfl rfl))) ?_
                  refine go_E hΓ 1 rfl ?_
                  refine ge_litT hΓ (enc := eS) [x25.2] rfl rfl rfl rfl rfl rfl rfl rfl rfl rfl rfl rfl ?_
                  obtain ⟨y44, hy44, h45⟩ := bi_ok h43
                  refine ge_h [mOb kS true e_laneref1_trail s24.1, .box 80 [S x14.A, S x14.v_B, I x14.Millis], .box 84 [S x25.1, S x25.2], .box 82 [.d (Sl eS (((mGet s24.1 x25.1).getD (⟨[], 0⟩ : T_laneref1_trail)).relays)), I (((mGet s24.1 x25.1).getD (⟨[], 0⟩ : T_laneref1_trail)).millis)], .dead, .row 9 1 y44.length (y44.flatMap eS)] rfl rfl rfl (st_st ⟨rfl, rfl, rfl, trivial⟩) (qte_s (ops_appendT hΓ (enc := eS) (id := 4) (h2 := show Γ 9 = some ⟨_, 1, _, _⟩ from rfl) hy44 rfl rfl rfl rfl rfl rfl rfl rfl (fun _ => rfl) rfl)) ?_
                  refine go_E hΓ 5 rfl ?_
                  refine ge_q rfl (.inl rfl) (fun _ _ => qte_of_qt (qt_p (op_build hΓ (gs := [.sl 5 y44.length, I (wi ((((mGet s24.1 x25.1).getD (⟨[], 0⟩ : T_laneref1_trail)).millis) + x14.Millis))]) rfl rfl rfl rfl rfl rfl))) ?_
                  refine ge_new hΓ 14 (i := _) rfl rfl rfl rfl ?_
                  refine ge_fill hΓ 13 17 [] [.d (Sl eS []), I 0] [mOb kS true e_laneref1_trail s24.1, .box 80 [S x14.A, S x14.v_B, I x14.Millis], .box 84 [S x25.1, S x25.2], .box 82 [.d (Sl eS (((mGet s24.1 x25.1).getD (⟨[], 0⟩ : T_laneref1_trail)).relays)), I (((mGet s24.1 x25.1).getD (⟨[], 0⟩ : T_laneref1_trail)).millis)], .dead, .row 9 1 y44.length (y44.flatMap eS), .box 82 [.sl 5 y44.length, I (wi ((((mGet s24.1 x25.1).getD (⟨[], 0⟩ : T_laneref1_trail)).millis) + x14.Millis))]] rfl rfl rfl (show Γ 82 = some ⟨_, _, _, _⟩ from rfl) rfl ⟨.refl _, .refl _, trivial⟩ rfl rfl rfl rfl (st_st ⟨rfl, rfl, rfl, trivial⟩) (qte_u (opu_store2 hΓ rfl rfl rfl rfl rfl rfl rfl rfl rfl)) ?_
                  refine ge_fin ?_
                  refine go hΓ 1 rfl ?_
                  refine j_shr 5 [73, 79] _ [mOb kS true e_laneref1_trail s24.1, .box 80 [S x14.A, S x14.v_B, I x14.Millis], .box 84 [S x25.1, S x25.2], .box 82 [.d (Sl eS (((mGet s24.1 x25.1).getD (⟨[], 0⟩ : T_laneref1_trail)).relays)), I (((mGet s24.1 x25.1).getD (⟨[], 0⟩ : T_laneref1_trail)).millis)], .dead, .dead, .box 82 [.d (Sl eS y44), I (wi ((((mGet s24.1 x25.1).getD (⟨[], 0⟩ : T_laneref1_trail)).millis) + x14.Millis))]] rfl rfl rfl (Nat.le_of_ble_eq_true rfl) ?_
                  refine go hΓ 3 rfl ?_
                  refine eo_o rfl (op_elemArr hΓ (l := List.replicate 2 ()) (z := ()) rfl rfl rfl rfl rfl rfl rfl) ?_
                  refine go_ops hΓ 1 rfl ?_
                  refine eo_o rfl (op_lookupOk hΓ (kv := kS) (agg := true) (enc := e_laneref1_trail) s24.1 x25.2 ((⟨[], 0⟩ : T_laneref1_trail) : T_laneref1_trail) rfl rfl rfl rfl key_str rfl rfl rfl rfl rfl rfl rfl) ?_
                  refine go_ops hΓ 3 rfl ?_
                  refine eo_alloc hΓ rfl rfl rfl (Nat.le_of_ble_eq_true rfl) ?_
                  refine eo_store hΓ rfl rfl rfl rfl rfl rfl rfl rfl (Nat.le_of_ble_eq_true rfl) ?_
                  refine eo_hp [mOb kS true e_laneref1_trail s24.1, .box 80 [S x14.A, S x14.v_B, I x14.Millis], .box 84 [S x25.1, S x25.2], .box 82 [.d (Sl eS (((mGet s24.1 x25.1).getD (⟨[], 0⟩ : T_laneref1_trail)).relays)), I (((mGet s24.1 x25.1).getD (⟨[], 0⟩ : T_laneref1_trail)).millis)], .dead, .dead, .box 82 [.d (Sl eS y44), I (wi ((((mGet s24.1 x25.1).getD (⟨[], 0⟩ : T_laneref1_trail)).millis) + x14.Millis))], .box 82 [.d (Sl eS (((mGet s24.1 x25.2).getD (⟨[], 0⟩ : T_laneref1_trail)).relays)), I (((mGet s24.1 x25.2).getD (⟨[], 0⟩ : T_laneref1_trail)).millis)]] rfl ?_
                  refine go_ops hΓ 8 rfl ?_
                  obtain ⟨q46, hq46, h47⟩ := bi_ok h45
                  refine o_cut 4 [(0, .d (Sl e_api_Link l)), (2, S b), (9, .map 0), (10, B s24.2), (12, .ptr 1 0), (14, .ptr 2 0), (17, .ptr 6 0), (29, .d (Sl e_api_Link l)), (30, I (l.length : Int)), (31, I (i12 : Int)), (45, .d (Sl (fun z => [.v (.string ⟨z.1.toArray⟩), .v (.string ⟨z.2.toArray⟩)]) [(x14.A, x14.v_B), (x14.v_B, x14.A)])), (46, I ([(x14.A, x14.v_B), (x14.v_B, x14.A)].length : Int)), (47, I (i23 : Int)), (93, B q46)] [mOb kS true e_laneref1_trail s24.1, .box 80 [S x14.A, S x14.v_B, I x14.Millis], .box 84 [S x25.1, S x25.2], .box 82 [.d (Sl eS (((mGet s24.1 x25.1).getD (⟨[], 0⟩ : T_laneref1_trail)).relays)), I (((mGet s24.1 x25.1).getD (⟨[], 0⟩ : T_laneref1_trail)).millis)], .dead, .dead, .box 82 [.d (Sl eS y44), I (wi ((((mGet s24.1 x25.1).getD (⟨[], 0⟩ : T_laneref1_trail)).millis) + x14.Millis))], .box 82 [.d (Sl eS (((mGet s24.1 x25.2).getD (⟨[], 0⟩ : T_laneref1_trail)).relays)), I (((mGet s24.1 x25.2).getD (⟨[], 0⟩ : T_laneref1_trail)).millis)]] ?_ ?_
                  · refine eo_gsplit rfl rfl (fun hb => ?_) (fun hb => ?_)
                    · have h48 := cT hq46 hb
                      refine go_ops hΓ 5 rfl ?_
                      obtain rfl := Option.some.inj h48
                      exact ⟨⟨rfl, rfl, rfl, rfl, rfl, rfl, rfl, rfl, rfl, rfl, rfl, rfl, rfl, rfl, trivial⟩, [], rfl, .inl rfl⟩
                    · have h49 := cF hq46 hb
                      obtain ⟨y50, hy50, h51⟩ := bi_ok h49
                      refine go_ops hΓ 2 rfl ?_
                      refine eo_guard rfl ?_
                      refine eo_callP (callable Tryd.func59 rfl rfl) (c_laneref1_lessTrail hy50) rfl (Nat.le_of_ble_eq_true rfl) rfl rfl rfl rfl rfl ?_
                      refine go_ops hΓ 2 rfl ?_
                      obtain rfl := Option.some.inj h51
                      exact ⟨⟨rfl, rfl, rfl, rfl, rfl, rfl, rfl, rfl, rfl, rfl, rfl, rfl, rfl, rfl, trivial⟩, [], rfl, .inl rfl⟩
                  · refine go_ops hΓ 2 rfl ?_
                    refine j_cond rfl (fun hb => ?_) (fun hb => ?_)
                    · have h52 := cT h47 hb
                      refine go hΓ 2 rfl ?_
                      refine eo_o rfl (op_elemArr hΓ (l := List.replicate 2 ()) (z := ()) rfl rfl rfl rfl rfl rfl rfl) ?_
                      refine go_ops hΓ 2 rfl ?_
                      refine eo_u (Nat.le_of_ble_eq_true rfl) (opu_mapUpdate hΓ (kv := kS) (agg := true) (enc := e_laneref1_trail) (id := 0) s24.1 x25.2 (⟨y44, wi ((((mGet s24.1 x25.1).getD (⟨[], 0⟩ : T_laneref1_trail)).millis) + x14.Millis)⟩ : T_laneref1_trail) rfl rfl rfl key_str rfl rfl rfl rfl rfl) ?_
                      refine eo_hp [mOb kS true e_laneref1_trail (mSet s24.1 x25.2 (⟨y44, wi ((((mGet s24.1 x25.1).getD (⟨[], 0⟩ : T_laneref1_trail)).millis) + x14.Millis)⟩ : T_laneref1_trail)), .box 80 [S x14.A, S x14.v_B, I x14.Millis], .box 84 [S x25.1, S x25.2], .box 82 [.d (Sl eS (((mGet s24.1 x25.1).getD (⟨[], 0⟩ : T_laneref1_trail)).relays)), I (((mGet s24.1 x25.1).getD (⟨[], 0⟩ : T_laneref1_trail)).millis)], .dead, .dead, .box 82 [.d (Sl eS y44), I (wi ((((mGet s24.1 x25.1).getD (⟨[], 0⟩ : T_laneref1_trail)).millis) + x14.Millis))], .box 82 [.d (Sl eS (((mGet s24.1 x25.2).getD (⟨[], 0⟩ : T_laneref1_trail)).relays)), I (((mGet s24.1 x25.2).getD (⟨[], 0⟩ : T_laneref1_trail)).millis)]] rfl ?_
                      refine go_ops hΓ 8 rfl ?_
                      obtain rfl := Option.some.inj h52
                      exact ⟨⟨rfl, rfl, rfl, rfl, rfl, rfl, rfl, rfl, rfl, rfl, get_eq rfl (w64_succ (Nat.lt_of_lt_of_le hlt hb29)), trivial⟩, [_, _, _, _, _, _], rfl, .inr ⟨HB.mk rfl, FB.mk rfl, (Nat.le_of_ble_eq_true rfl)⟩⟩
                    · have h53 := cF h47 hb
                      refine go hΓ 7 rfl ?_
                      obtain rfl := Option.some.inj h53
                      exact ⟨⟨rfl, rfl, rfl, rfl, rfl, rfl, rfl, rfl, rfl, rfl, get_eq rfl (w64_succ (Nat.lt_of_lt_of_le hlt hb29)), trivial⟩, [_, _, _, _, _, _], rfl, .inr ⟨HB.mk rfl, FB.mk rfl, (Nat.le_of_ble_eq_true rfl)⟩⟩
            · refine go hΓ 6 rfl ?_
              refine j_condF rfl (decide_eq_false (Int.lt_irrefl _)) ?_
              refine go hΓ 4 rfl ?_
              exact ⟨⟨rfl, rfl, rfl, rfl, rfl, rfl, rfl, trivial⟩, [], rfl, .inl rfl⟩
          · refine go hΓ 6 rfl ?_
            obtain rfl := Option.some.inj h27
            exact ⟨⟨rfl, rfl, rfl, rfl, rfl, rfl, get_eq rfl (w64_succ (Nat.lt_of_lt_of_le hlt hb18)), trivial⟩, [_], rfl, .inr ⟨HB.mk rfl, FB.mk rfl, (Nat.le_of_ble_eq_true rfl)⟩⟩
        · refine go hΓ 6 rfl ?_
          refine j_condF rfl (decide_eq_false (Int.lt_irrefl _)) ?_
          refine go hΓ 4 rfl ?_
          exact ⟨⟨rfl, rfl, rfl, rfl, trivial⟩, [], rfl, .inl rfl⟩
      · refine go hΓ 1 rfl ?_
        obtain rfl := Option.some.inj h16
        exact ⟨_, rfl, ⟨⟨rfl, rfl, rfl, rfl, trivial⟩, [], rfl, .inl rfl⟩⟩
    · have h54 := cF hy8 hb
      refine go hΓ 4 rfl ?_
      obtain rfl := Option.some.inj h54
      obtain rfl := hout9 _ rfl
      exact ⟨⟨rfl, rfl, trivial⟩, [], rfl, .inl rfl⟩
  · refine go hΓ 5 rfl ?_
    refine eo_o rfl (op_lookupOk hΓ (kv := kS) (agg := true) (enc := e_laneref1_trail) q4 b ((⟨[], 0⟩ : T_laneref1_trail) : T_laneref1_trail) rfl rfl rfl rfl key_str rfl rfl rfl rfl rfl rfl rfl) ?_
    refine go_ops hΓ 3 rfl ?_
    refine eo_alloc hΓ rfl rfl rfl (Nat.le_of_ble_eq_true rfl) ?_
    refine eo_store hΓ rfl rfl rfl rfl rfl rfl rfl rfl (Nat.le_of_ble_eq_true rfl) ?_
    refine eo_hp [mOb kS true e_laneref1_trail q4, .box 82 [.d (Sl eS (((mGet q4 b).getD (⟨[], 0⟩ : T_laneref1_trail)).relays)), I (((mGet q4 b).getD (⟨[], 0⟩ : T_laneref1_trail)).millis)]] rfl ?_
    refine go_ops hΓ 4 rfl ?_
    refine j_draw hmix (by kernel_rfl) ?_
    refine go hΓ 11 rfl ?_
    obtain rfl := Option.some.inj h5
    exact fin_pure hΓ (.inr rfl) rfl rfl
theorem c_lanelaw1_when {is : Bool} {e : Int} {r : Int} (h : m_lanelaw1_when is e = some r) : Pure Tryd.prog 19 [B is, I e] (I r) := by
  refine Pure.enter (Fr.of 0 _) Tryd.func19 rfl (Fr.of_ok _) rfl rfl ?_
  refine go_in ?_
  unfold m_lanelaw1_when at h
  refine go hΓ 11 rfl ?_
  refine j_cond rfl (fun hb => ?_) (fun hb => ?_)
  · have h1 := cT h hb
    refine go hΓ 8 rfl ?_
    obtain rfl := Option.some.inj h1
    exact fin_pure hΓ (.inr rfl) rfl rfl
  · have h2 := cF h hb
    refine go hΓ 8 rfl ?_
    obtain rfl := Option.some.inj h2
    exact fin_pure hΓ (.inr rfl) rfl rfl
theorem c_slices_Equal_string_string {s1 : List Str} {s2 : List Str} {r : Bool} (h : m_slices_Equal_string_string s1 s2 = some r) : Pure Tryd.prog 28 [.d (Sl eS s1), .d (Sl eS s2)] (B r) := by
  refine Pure.enter (Fr.of 0 _) Tryd.func28 rfl (Fr.of_ok _) rfl rfl ?_
  refine go_in ?_
  unfold m_slices_Equal_string_string at h
  refine go hΓ 15 rfl ?_
  refine j_cond rfl (fun hb => ?_) (fun hb => ?_)
  · have h1 := cT h hb
    refine go hΓ 7 rfl ?_
    obtain rfl := Option.some.inj h1
    exact fin_pure hΓ (.inr rfl) rfl rfl
  · have h2 := cF h hb
    refine go hΓ 10 rfl ?_
    obtain ⟨q6, hq6, h7⟩ := bi_ok h2
    refine j_bound 0 rfl fun hb9 => ?_
    refine j_cutEZ (R := fun a8 => q6 = .go a8) (fun a8 => []) (fun a8 => []) ?_ ?_
    · refine go hΓ 1 rfl ?_
      refine j_range s1 hq6 (fun i3 s4 => [(0, .d (Sl eS s1)), (1, .d (Sl eS s2)), (12, I (s1.length : Int)), (13, I (i3 : Int))]) (fun s4 => []) ⟨⟨rfl, rfl, rfl, rfl, trivial⟩, [], rfl, .inl rfl⟩ (fun i3 x5 s4 y13 hx10 hlt hy11 hout12 => ?_) (fun s4 hgo => ?_)
      · refine go hΓ 6 rfl ?_
        refine j_condT rfl (decide_eq_true (Int.ofNat_lt.2 hlt)) ?_
        refine go hΓ 11 rfl ?_
        refine j_draw hmix (by kernel_rfl) ?_
        refine go hΓ 2 rfl ?_
        refine gl_o rfl (op_elemZ hΓ (enc := eS) (getZ_nat hx10) rfl rfl rfl rfl rfl (fun _ => rfl)) ?_
        obtain ⟨x14, hx14, h15⟩ := bi_ok hy11
        refine go_draw hΓ 3 rfl ?_
        refine gl_o rfl (op_elemZ hΓ (enc := eS) hx14 rfl rfl rfl rfl rfl (fun _ => rfl)) ?_
        refine go_draw hΓ 4 rfl ?_
        refine j_cond rfl (fun hb => ?_) (fun hb => ?_)
        · have h16 := cT h15 hb
          refine go hΓ 8 rfl ?_
          obtain ⟨v17, hv17, h18⟩ := bi_ok h16
          obtain rfl := Option.some.inj h18
          obtain rfl := hout12 _ rfl
          obtain rfl := Option.some.inj h7
          refine go hΓ 4 rfl ?_
          obtain rfl := Option.some.inj hv17
          exact fin_pure hΓ (.inr rfl) rfl rfl
        · have h19 := cF h15 hb
          refine go hΓ 7 rfl ?_
          obtain rfl := Option.some.inj h19
          exact ⟨_, rfl, ⟨⟨rfl, rfl, rfl, get_eq rfl (w64_succ (Nat.lt_of_lt_of_le hlt hb9)), trivial⟩, [], rfl, .inl rfl⟩⟩
      · subst hgo
        refine go hΓ 6 rfl ?_
        refine j_condF rfl (decide_eq_false (Int.lt_irrefl _)) ?_
        refine go hΓ 4 rfl ?_
        exact ⟨_, rfl, ⟨trivial, [], rfl, .inl rfl⟩⟩
    · intro a8 ha
      subst ha
      replace h7 := goI_l h7
      refine go hΓ 7 rfl ?_
      obtain rfl := Option.some.inj h7
      exact fin_pure hΓ (.inr rfl) rfl rfl
theorem c_kit_IsMoment {n : Int} {r : Bool} (h : m_kit_IsMoment n = some r) : Pure Tryd.prog 50 [I n] (B r) := by
  refine Pure.enter (Fr.of 0 _) Tryd.func50 rfl (Fr.of_ok _) rfl rfl ?_
  refine go_in ?_
  unfold m_kit_IsMoment at h
  refine go hΓ 10 rfl ?_
  refine o_cut 3 [(2, B false), (8, B ((decide ((n : Int) ≥ 0)) && (decide ((n : Int) < 345686400))))] [] ?_ ?_
  · refine eo_gsplit rfl rfl (fun hb => ?_) (fun hb => ?_)
    · refine go_ops hΓ 4 rfl ?_
      exact ⟨⟨rfl, get_b rfl (and_t hb), trivial⟩, [], rfl, .inl rfl⟩
    · refine go_ops hΓ 4 rfl ?_
      exact ⟨⟨rfl, get_b rfl (and_f hb), trivial⟩, [], rfl, .inl rfl⟩
  · refine go_ops hΓ 4 rfl ?_
    obtain rfl := Option.some.inj h
    exact fin_pure hΓ (.inr rfl) rfl rfl
set_option maxHeartbeats 8000000 in
theorem c_route_CheckProbes {k : Nat} {l : List T_api_Probe} {r : Int} (h : m_route_CheckProbes k l = some r) : Pure Tryd.prog 13 [.d (Sl e_api_Probe l)] (I r) := by
  refine Pure.enter (Fr.of 0 _) Tryd.func13 rfl (Fr.of_ok _) rfl rfl ?_
  refine go_in ?_
  unfold m_route_CheckProbes at h
  refine go hΓ 13 rfl ?_
  refine j_cond rfl (fun hb => ?_) (fun hb => ?_)
  · have h1 := cT h hb
    refine go hΓ 7 rfl ?_
    obtain rfl := Option.some.inj h1
    exact fin_pure hΓ (.inr rfl) rfl rfl
  · have h2 := cF h hb
    refine go hΓ 10 rfl ?_
    obtain ⟨q6, hq6, h7⟩ := bi_ok h2
    refine j_bound 0 rfl fun hb9 => ?_
    refine j_cutEZ (R := fun a8 => q6 = .go a8) (fun a8 => []) (fun a8 => []) ?_ ?_
    · refine go hΓ 1 rfl ?_
      refine j_range l hq6 (fun i3 s4 => [(0, .d (Sl e_api_Probe l)), (9, .d (Sl e_api_Probe l)), (10, I (l.length : Int)), (11, I (i3 : Int))]) (fun s4 => []) ⟨⟨rfl, rfl, rfl, rfl, trivial⟩, [], rfl, .inl rfl⟩ (fun i3 x5 s4 y13 hx10 hlt hy11 hout12 => ?_) (fun s4 hgo => ?_)
      · refine go hΓ 6 rfl ?_
        refine j_condT rfl (decide_eq_true (Int.ofNat_lt.2 hlt)) ?_
        refine go hΓ 7 rfl ?_
        refine eo_o rfl (op_elemZ hΓ (enc := e_api_Probe) (getZ_nat hx10) rfl rfl rfl rfl rfl (fun _ => rfl)) ?_
        refine go_ops hΓ 1 rfl ?_
        refine eo_alloc hΓ rfl rfl rfl (Nat.le_of_ble_eq_true rfl) ?_
        refine go_ops hΓ 1 rfl ?_
        refine eo_store hΓ rfl rfl rfl rfl rfl rfl rfl rfl (Nat.le_of_ble_eq_true rfl) ?_
        refine eo_hp [.box 67 [I x5.At, S x5.Node, S x5.Relay, I x5.Millis]] rfl ?_
        obtain ⟨y14, hy14, h15⟩ := bi_ok hy11
        refine go_ops hΓ 8 rfl ?_
        refine eo_callP (callable Tryd.func50 rfl rfl) (c_kit_IsMoment hy14) rfl (Nat.le_of_ble_eq_true rfl) rfl rfl rfl rfl rfl ?_
        refine go_ops hΓ 4 rfl ?_
        refine j_cond rfl (fun hb => ?_) (fun hb => ?_)
        · have h16 := cT h15 hb
          refine go hΓ 10 rfl ?_
          obtain ⟨v17, hv17, h18⟩ := bi_ok h16
          obtain rfl := Option.some.inj h18
          obtain rfl := hout12 _ rfl
          obtain rfl := Option.some.inj h7
          refine go hΓ 4 rfl ?_
          obtain rfl := Option.some.inj hv17
          exact fin_pure hΓ (.inr rfl) rfl rfl
        · have h19 := cF h15 hb
          obtain ⟨y20, hy20, h21⟩ := bi_ok h19
          refine go hΓ 4 rfl ?_
          refine eo_callP (callable Tryd.func51 rfl rfl) (c_kit_IsKey hy20) rfl (Nat.le_of_ble_eq_true rfl) rfl rfl rfl rfl rfl ?_
          refine go_ops hΓ 2 rfl ?_
          obtain ⟨q22, hq22, h23⟩ := bi_ok h21
          refine o_cut 5 [(0, .d (Sl e_api_Probe l)), (3, I (i3 : Int)), (4, .ptr 0 0), (9, .d (Sl e_api_Probe l)), (10, I (l.length : Int)), (11, I (i3 : Int)), (31, B q22)] [.box 67 [I x5.At, S x5.Node, S x5.Relay, I x5.Millis]] ?_ ?_
          · refine eo_gsplit rfl rfl (fun hb => ?_) (fun hb => ?_)
            · have h24 := cT hq22 hb
              refine go_ops hΓ 6 rfl ?_
              obtain rfl := Option.some.inj h24
              exact ⟨⟨rfl, rfl, rfl, rfl, rfl, rfl, rfl, trivial⟩, [], rfl, .inl rfl⟩
            · have h25 := cF hq22 hb
              obtain ⟨y26, hy26, h27⟩ := bi_ok h25
              refine go_ops hΓ 2 rfl ?_
              refine eo_guard rfl ?_
              refine eo_callP (callable Tryd.func51 rfl rfl) (c_kit_IsKey hy26) rfl (Nat.le_of_ble_eq_true rfl) rfl rfl rfl rfl rfl ?_
              refine go_ops hΓ 3 rfl ?_
              obtain rfl := Option.some.inj h27
              exact ⟨⟨rfl, rfl, rfl, rfl, rfl, rfl, rfl, trivial⟩, [], rfl, .inl rfl⟩
          · refine go_ops hΓ 3 rfl ?_
            refine j_cond rfl (fun hb => ?_) (fun hb => ?_)
            · have h28 := cT h23 hb
              refine go hΓ 10 rfl ?_
              obtain ⟨v29, hv29, h30⟩ := bi_ok h28
              obtain rfl := Option.some.inj h30
              obtain rfl := hout12 _ rfl
              obtain rfl := Option.some.inj h7
              refine go hΓ 4 rfl ?_
              obtain rfl := Option.some.inj hv29
              exact fin_pure hΓ (.inr rfl) rfl rfl
            · have h31 := cF h23 hb
              obtain ⟨y32, hy32, h33⟩ := bi_ok h31
              refine go hΓ 4 rfl ?_
              refine eo_callP (callable Tryd.func52 rfl rfl) (c_kit_Outside hy32) rfl (Nat.le_of_ble_eq_true rfl) rfl rfl rfl rfl rfl ?_
              refine go_ops hΓ 3 rfl ?_
              refine j_cond rfl (fun hb => ?_) (fun hb => ?_)
              · have h34 := cT h33 hb
                refine go hΓ 10 rfl ?_
                obtain ⟨v35, hv35, h36⟩ := bi_ok h34
                obtain rfl := Option.some.inj h36
                obtain rfl := hout12 _ rfl
                obtain rfl := Option.some.inj h7
                refine go hΓ 4 rfl ?_
                obtain rfl := Option.some.inj hv35
                exact fin_pure hΓ (.inr rfl) rfl rfl
              · have h37 := cF h33 hb
                refine go hΓ 10 rfl ?_
                refine j_cond rfl (fun hb => ?_) (fun hb => ?_)
                · have h38 := cT h37 hb
                  refine go hΓ 8 rfl ?_
                  obtain rfl := Option.some.inj h38
                  exact ⟨_, rfl, ⟨⟨rfl, rfl, rfl, get_eq rfl (w64_succ (Nat.lt_of_lt_of_le hlt hb9)), trivial⟩, [_], rfl, .inr ⟨HB.mk rfl, FB.mk rfl, (Nat.le_of_ble_eq_true rfl)⟩⟩⟩
                · have h39 := cF h37 hb
                  obtain ⟨x40, hx40, h41⟩ := bi_ok h39
                  refine go hΓ 7 rfl ?_
                  refine eo_o rfl (op_elemZ hΓ (enc := e_api_Probe) hx40 rfl rfl rfl rfl rfl (fun _ => rfl)) ?_
                  refine go_ops hΓ 1 rfl ?_
                  refine eo_alloc hΓ rfl rfl rfl (Nat.le_of_ble_eq_true rfl) ?_
                  refine eo_store hΓ rfl rfl rfl rfl rfl rfl rfl rfl (Nat.le_of_ble_eq_true rfl) ?_
                  refine eo_hp [.box 67 [I x5.At, S x5.Node, S x5.Relay, I x5.Millis], .box 67 [I x40.At, S x40.Node, S x40.Relay, I x40.Millis]] rfl ?_
                  refine go_ops hΓ 3 rfl ?_
                  refine j_draw hmix (by kernel_rfl) ?_
                  obtain ⟨y42, hy42, h43⟩ := bi_ok h41
                  refine go hΓ 4 rfl ?_
                  refine gl_callP (callable Tryd.func48 rfl rfl) (c_cmp_Compare_int hy42) rfl rfl rfl rfl rfl rfl ?_
                  obtain ⟨y44, hy44, h45⟩ := bi_ok h43
                  refine go_draw hΓ 4 rfl ?_
                  refine gl_callP (callable Tryd.func49 rfl rfl) (c_strings_Compare hy44) rfl rfl rfl rfl rfl rfl ?_
                  obtain ⟨y46, hy46, h47⟩ := bi_ok h45
                  refine go_draw hΓ 4 rfl ?_
                  refine gl_callP (callable Tryd.func49 rfl rfl) (c_strings_Compare hy46) rfl rfl rfl rfl rfl rfl ?_
                  refine gl_litT hΓ (enc := (eN .i64)) [y42, y44, y46] rfl rfl rfl rfl rfl rfl rfl rfl rfl rfl rfl rfl ?_
                  obtain ⟨y48, hy48, h49⟩ := bi_ok h47
                  refine gl_callP (callable Tryd.func47 rfl rfl) (c_cmp_Or_int hy48) rfl rfl rfl rfl rfl rfl ?_
                  refine go_draw hΓ 3 rfl ?_
                  refine j_cond rfl (fun hb => ?_) (fun hb => ?_)
                  · have h50 := cT h49 hb
                    refine go hΓ 8 rfl ?_
                    obtain ⟨v51, hv51, h52⟩ := bi_ok h50
                    obtain rfl := Option.some.inj h52
                    obtain rfl := hout12 _ rfl
                    obtain rfl := Option.some.inj h7
                    refine go hΓ 4 rfl ?_
                    obtain rfl := Option.some.inj hv51
                    exact fin_pure hΓ (.inr rfl) rfl rfl
                  · have h53 := cF h49 hb
                    refine go hΓ 7 rfl ?_
                    obtain rfl := Option.some.inj h53
                    exact ⟨_, rfl, ⟨⟨rfl, rfl, rfl, get_eq rfl (w64_succ (Nat.lt_of_lt_of_le hlt hb9)), trivial⟩, [_, _], rfl, .inr ⟨HB.mk rfl, FB.mk rfl, (Nat.le_of_ble_eq_true rfl)⟩⟩⟩
      · subst hgo
        refine go hΓ 6 rfl ?_
        refine j_condF rfl (decide_eq_false (Int.lt_irrefl _)) ?_
        refine go hΓ 4 rfl ?_
        exact ⟨_, rfl, ⟨trivial, [], rfl, .inl rfl⟩⟩
    · intro a8 ha
      subst ha
      replace h7 := goI_l h7
      refine go hΓ 7 rfl ?_
      obtain rfl := Option.some.inj h7
      exact fin_pure hΓ (.inr rfl) rfl rfl
theorem c_route_gainFault {gain : Int} {r : Int} (h : m_route_gainFault gain = some r) : Pure Tryd.prog 60 [I gain] (I r) := by
  refine Pure.enter (Fr.of 0 _) Tryd.func60 rfl (Fr.of_ok _) rfl rfl ?_
  refine go_in ?_
  unfold m_route_gainFault at h
  obtain ⟨y1, hy1, h2⟩ := bi_ok h
  refine go hΓ 9 rfl ?_
  refine eo_callP (callable Tryd.func52 rfl rfl) (c_kit_Outside hy1) rfl (Nat.le_of_ble_eq_true rfl) rfl rfl rfl rfl rfl ?_
  refine go_ops hΓ 2 rfl ?_
  refine j_cond rfl (fun hb => ?_) (fun hb => ?_)
  · have h3 := cT h2 hb
    refine go hΓ 7 rfl ?_
    obtain rfl := Option.some.inj h3
    exact fin_pure hΓ (.inr rfl) rfl rfl
  · have h4 := cF h2 hb
    refine go hΓ 8 rfl ?_
    obtain rfl := Option.some.inj h4
    exact fin_pure hΓ (.inr rfl) rfl rfl
theorem c_slices_Clone_api_Probe_api_Probe {s : List T_api_Probe} {r : List T_api_Probe} (h : m_slices_Clone_api_Probe_api_Probe s = some r) : EC Tryd.prog 70 [.d (Sl e_api_Probe s)] [] fun g hp' => g = .sl 0 r.length ∧ hp' = [.row 67 4 r.length (r.flatMap e_api_Probe)] := by
  refine ec_enterC (Fr.of 0 _) Tryd.func70 rfl (Fr.of_ok _) (Nat.le_of_ble_eq_true rfl) fun _ => ?_
  refine go_in ?_
  unfold m_slices_Clone_api_Probe_api_Probe at h
  refine go hΓ 2 rfl ?_
  refine eo_nilOwn (t := 0) 67 4 rfl (Nat.le_of_ble_eq_true rfl) ?_
  refine go_ops hΓ 6 rfl ?_
  refine eo_isNil hΓ rfl rfl rfl rfl rfl fun b hbn => ?_
  rcases b with _ | _
  · refine go_ops hΓ 7 rfl ?_
    refine eo_litRowT hΓ (enc := e_api_Probe) ([] : List T_api_Probe) rfl rfl rfl rfl rfl rfl rfl rfl rfl rfl rfl rfl (Nat.le_of_ble_eq_true rfl) ?_
    obtain ⟨y1, hy1, h2⟩ := bi_ok h
    refine go_ops hΓ 1 rfl ?_
    refine eo_appendT hΓ (enc := e_api_Probe) hy1 rfl rfl rfl rfl rfl rfl rfl rfl rfl (fun _ => rfl) rfl rfl rfl rfl ?_
    refine go_ops hΓ 4 rfl ?_
    refine cv_kill 0 [.dead, .row 67 4 y1.length (y1.flatMap e_api_Probe)] rfl (Nat.le_of_ble_eq_true rfl) ?_
    refine cv_move 1 0 [.row 67 4 y1.length (y1.flatMap e_api_Probe), .dead] rfl rfl rfl rfl rfl rfl ?_
    refine cv_here ?_
    obtain rfl := Option.some.inj h2
    exact fin_objs hΓ [_] (.inr rfl) rfl rfl rfl rfl (.inr ⟨HB.mk rfl, rfl⟩)
  · obtain rfl := List.eq_nil_of_length_eq_zero (hbn rfl).1
    replace h : (some ([] : List T_api_Probe) : Option (List T_api_Probe)) = some r := h
    refine go_ops hΓ 5 rfl ?_
    refine eo_nilOwn (t := 0) 67 4 rfl (Nat.le_of_ble_eq_true rfl) ?_
    refine go_ops hΓ 4 rfl ?_
    refine cv_kill 0 [.dead, .row 67 4 ([] : List T_api_Probe).length (([] : List T_api_Probe).flatMap e_api_Probe)] rfl (Nat.le_of_ble_eq_true rfl) ?_
    refine cv_move 1 0 [.row 67 4 ([] : List T_api_Probe).length (([] : List T_api_Probe).flatMap e_api_Probe), .dead] rfl rfl rfl rfl rfl rfl ?_
    refine cv_here ?_
    obtain rfl := Option.some.inj h
    exact fin_objs hΓ [_] (.inr rfl) rfl rfl rfl rfl (.inr ⟨HB.mk rfl, rfl⟩)
theorem c_route_homes_1 {p : T_api_Probe} {x : Str} {r : Bool} (h : m_route_homes_1 p x = some r) : EC Tryd.prog 71 [.agg [I p.At, S p.Node, S p.Relay, I p.Millis], .ptr 0 0] [.box 9 [S x]] fun g hp' => g = B r ∧ hp' = [.box 9 [S x]] := by
  refine ec_enter (Fr.of 0 _) Tryd.func71 rfl (Fr.of_ok _) (Nat.le_of_ble_eq_true rfl) fun _ => ?_
  refine go_in ?_
  unfold m_route_homes_1 at h
  refine go hΓ 2 rfl ?_
  refine eo_box rfl rfl rfl rfl (Nat.le_of_ble_eq_true rfl) ?_
  refine go_ops hΓ 13 rfl ?_
  obtain rfl := Option.some.inj h
  exact fin_objs hΓ [_] (.inr rfl) rfl rfl rfl rfl (.inr ⟨HB.mk rfl, rfl⟩)
theorem c_slices_IndexFunc_api_Probe_api_Probe {s : List T_api_Probe} {f : Str} {r : Int} (h : m_slices_IndexFunc_api_Probe_api_Probe s f = some r) : EC Tryd.prog 82 [.sl 0 s.length, .fn (.func 71) [] [.ptr 1 0]] [.row 67 4 s.length (s.flatMap e_api_Probe), .box 9 [S f]] fun g hp' => g = I r ∧ hp' = [.row 67 4 s.length (s.flatMap e_api_Probe), .box 9 [S f]] := by
  refine ec_enter (Fr.of 0 _) Tryd.func82 rfl (Fr.of_ok _) (Nat.le_of_ble_eq_true rfl) fun _ => ?_
  refine go_in ?_
  unfold m_slices_IndexFunc_api_Probe_api_Probe at h
  refine go hΓ 13 rfl ?_
  obtain ⟨q4, hq4, h5⟩ := bi_ok h
  obtain ⟨hb7, h8⟩ := gd_ok hq4
  replace hb7 := of_decide_eq_true hb7
  refine j_cutEZ (R := fun a6 => q4 = .go a6) (fun a6 => []) (fun a6 => [.row 67 4 s.length (s.flatMap e_api_Probe), .box 9 [S f]]) ?_ ?_
  · refine go hΓ 1 rfl ?_
    refine j_rangeI h8 (fun i1 s2 => [(0, .sl 0 s.length), (1, .fn (.func 71) [] [.ptr 1 0]), (7, I (s.length : Int)), (8, I (i1 : Int))]) (fun s2 => [.row 67 4 s.length (s.flatMap e_api_Probe), .box 9 [S f]]) ⟨⟨rfl, rfl, rfl, rfl, trivial⟩, [], rfl, .inl rfl⟩ (fun i1 s2 y12 hlt hy10 hout11 => ?_) (fun s2 hgo hge => ?_)
    · refine go hΓ 6 rfl ?_
      refine j_condT rfl (decide_eq_true hlt) ?_
      obtain ⟨x13, hx13, h14⟩ := bi_ok hy10
      have hj15 := getZ_at hx13
      refine go hΓ 15 rfl ?_
      refine eo_o rfl (op_elemRowZ hΓ hx13 rfl rfl rfl rfl rfl rfl) ?_
      refine eo_o rfl (op_loadRowZ hΓ (enc := e_api_Probe) ((i1 : Int).toNat) 0 hj15 rfl rfl rfl rfl (fun _ => rfl) (g := .agg [I x13.At, S x13.Node, S x13.Relay, I x13.Millis]) rfl) ?_
      obtain ⟨y16, hy16, h17⟩ := bi_ok h14
      refine eo_callF [1] (B y16) [.row 67 4 s.length (s.flatMap e_api_Probe), .box 9 [S f]] (callable Tryd.func71 rfl rfl) (c_route_homes_1 hy16) rfl (Nat.le_of_ble_eq_true rfl) rfl rfl rfl rfl rfl rfl rfl rfl rfl rfl ?_
      refine go_ops hΓ 2 rfl ?_
      refine j_cond rfl (fun hb => ?_) (fun hb => ?_)
      · have h18 := cT h17 hb
        refine go hΓ 9 rfl ?_
        obtain ⟨v19, hv19, h20⟩ := bi_ok h18
        obtain rfl := Option.some.inj h20
        obtain rfl := hout11 _ rfl
        obtain rfl := Option.some.inj h5
        refine go hΓ 4 rfl ?_
        obtain rfl := Option.some.inj hv19
        exact fin_objs hΓ [] (.inr rfl) rfl rfl rfl rfl (.inl rfl)
      · have h21 := cF h17 hb
        refine go hΓ 7 rfl ?_
        obtain rfl := Option.some.inj h21
        exact ⟨_, rfl, ⟨⟨rfl, rfl, rfl, get_eq rfl (w64_succ (by omega)), trivial⟩, [], rfl, .inl rfl⟩⟩
    · subst hgo
      refine go hΓ 6 rfl ?_
      refine j_condF rfl (decide_eq_false hge) ?_
      refine go hΓ 4 rfl ?_
      exact ⟨_, rfl, ⟨trivial, [], rfl, .inl rfl⟩⟩
  · intro a6 ha
    subst ha
    replace h5 := goI_l h5
    refine go hΓ 7 rfl ?_
    obtain rfl := Option.some.inj h5
    exact fin_objs hΓ [] (.inr rfl) rfl rfl rfl rfl (.inl rfl)
theorem c_slices_DeleteFunc_api_Probe_api_Probe {k : Nat} {s : List T_api_Probe} {f : Str} {r : List T_api_Probe} (h : m_slices_DeleteFunc_api_Probe_api_Probe k s f = some r) : EC Tryd.prog 69 [.sl 0 s.length, .fn (.func 71) [] [.ptr 1 0]] [.row 67 4 s.length (s.flatMap e_api_Probe), .box 9 [S f]] fun g hp' => g = .sl 0 r.length ∧ hp' = [.row 67 4 r.length (r.flatMap e_api_Probe), .box 9 [S f]] := by
  refine ec_enter (Fr.of 0 _) Tryd.func69 rfl (Fr.of_ok _) (Nat.le_of_ble_eq_true rfl) fun _ => ?_
  refine go_in ?_
  unfold m_slices_DeleteFunc_api_Probe_api_Probe at h
  obtain ⟨y1, hy1, h2⟩ := bi_ok h
  refine go hΓ 9 rfl ?_
  refine eo_callF [0, 1] (I y1) [.row 67 4 s.length (s.flatMap e_api_Probe), .box 9 [S f]] (callable Tryd.func82 rfl rfl) (c_slices_IndexFunc_api_Probe_api_Probe hy1) rfl (Nat.le_of_ble_eq_true rfl) rfl rfl rfl rfl rfl rfl rfl rfl rfl rfl ?_
  refine go_ops hΓ 10 rfl ?_
  refine j_cond rfl (fun hb => ?_) (fun hb => ?_)
  · have h3 := cT h2 hb
    refine go hΓ 8 rfl ?_
    obtain rfl := Option.some.inj h3
    exact fin_objs hΓ [] (.inr rfl) rfl rfl rfl rfl (.inl rfl)
  · have h4 := cF h2 hb
    refine go hΓ 10 rfl ?_
    obtain ⟨q8, hq8, h9⟩ := bi_ok h4
    refine j_cutNZ [(0, .sl 0 q8.1.length), (5, I q8.2)] [.row 67 4 q8.1.length (q8.1.flatMap e_api_Probe), .box 9 [S f]] ?_ ?_
    · refine go hΓ 1 rfl ?_
      refine j_loop hq8 (fun s6 => [(0, .sl 0 s6.1.length), (1, .fn (.func 71) [] [.ptr 1 0]), (5, I s6.2.1), (6, I s6.2.2)]) (fun s6 => [.row 67 4 s6.1.length (s6.1.flatMap e_api_Probe), .box 9 [S f]]) ⟨⟨rfl, rfl, rfl, rfl, trivial⟩, [], rfl, .inl rfl⟩ (fun s6 y14 hy12 hout13 => ?_)
      refine go hΓ 9 rfl ?_
      refine j_cond rfl (fun hb => ?_) (fun hb => ?_)
      · have h15 := cT hy12 hb
        obtain ⟨x16, hx16, h17⟩ := bi_ok h15
        have hj18 := getZ_at hx16
        refine go hΓ 8 rfl ?_
        refine eo_o rfl (op_elemRowZ hΓ hx16 rfl rfl rfl rfl rfl rfl) ?_
        refine eo_o rfl (op_loadRowZ hΓ (enc := e_api_Probe) s6.2.2.toNat 0 hj18 rfl rfl rfl rfl (fun _ => rfl) (g := .agg [I x16.At, S x16.Node, S x16.Relay, I x16.Millis]) rfl) ?_
        refine eo_alloc hΓ rfl rfl rfl (Nat.le_of_ble_eq_true rfl) ?_
        refine eo_store hΓ rfl rfl rfl rfl rfl rfl rfl rfl (Nat.le_of_ble_eq_true rfl) ?_
        refine eo_hp [.row 67 4 s6.1.length (s6.1.flatMap e_api_Probe), .box 9 [S f], .box 67 [I x16.At, S x16.Node, S x16.Relay, I x16.Millis]] rfl ?_
        obtain ⟨y19, hy19, h20⟩ := bi_ok h17
        refine go_ops hΓ 6 rfl ?_
        refine eo_callF [1] (B y19) [.row 67 4 s6.1.length (s6.1.flatMap e_api_Probe), .box 9 [S f], .box 67 [I x16.At, S x16.Node, S x16.Relay, I x16.Millis]] (callable Tryd.func71 rfl rfl) (c_route_homes_1 hy19) rfl (Nat.le_of_ble_eq_true rfl) rfl rfl rfl rfl rfl rfl rfl rfl rfl rfl ?_
        refine go_ops hΓ 3 rfl ?_
        refine j_cond rfl (fun hb => ?_) (fun hb => ?_)
        · have h21 := cT h20 hb
          obtain ⟨x22, hx22, h23⟩ := bi_ok h21
          have hj24 := getZ_at hx22
          refine go hΓ 5 rfl ?_
          refine eo_o rfl (op_elemRowZ hΓ hx22 rfl rfl rfl rfl rfl rfl) ?_
          refine eo_storeRowZ hΓ (enc := e_api_Probe) (z' := x16) s6.2.1.toNat 0 hj24 rfl rfl rfl rfl (fun _ => rfl) rfl rfl rfl rfl rfl rfl (Nat.le_of_ble_eq_true rfl) ?_
          refine eo_hp [.row 67 4 (s6.1.set s6.2.1.toNat x16).length ((s6.1.set s6.2.1.toNat x16).flatMap e_api_Probe), .box 9 [S f], .box 67 [I x16.At, S x16.Node, S x16.Relay, I x16.Millis]] rfl ?_
          refine eo_relen 0 (n' := (s6.1.set s6.2.1.toNat x16).length) rfl List.length_set.symm ?_
          refine go_ops hΓ 14 rfl ?_
          obtain rfl := Option.some.inj h23
          exact ⟨_, rfl, ⟨⟨rfl, rfl, rfl, rfl, trivial⟩, [_], rfl, .inr ⟨HB.mk rfl, FB.mk rfl, (Nat.le_of_ble_eq_true rfl)⟩⟩⟩
        · have h25 := cF h20 hb
          refine go hΓ 8 rfl ?_
          obtain rfl := Option.some.inj h25
          exact ⟨_, rfl, ⟨⟨rfl, rfl, rfl, rfl, trivial⟩, [_], rfl, .inr ⟨HB.mk rfl, FB.mk rfl, (Nat.le_of_ble_eq_true rfl)⟩⟩⟩
      · have h26 := cF hy12 hb
        refine go hΓ 4 rfl ?_
        obtain rfl := Option.some.inj h26
        obtain rfl := hout13 _ rfl
        exact ⟨⟨rfl, rfl, trivial⟩, [], rfl, .inl rfl⟩
    · obtain ⟨z27, hz27, h28⟩ := bi_ok h9
      refine go hΓ 5 rfl ?_
      refine eo_o rfl (op_viewI hΓ hz27 rfl rfl rfl rfl rfl rfl) ?_
      refine eo_s0 (Nat.le_of_ble_eq_true rfl) (ops_clearT hΓ (enc := e_api_Probe) (a := q8.2) hz27 rfl rfl rfl rfl rfl rfl rfl rfl rfl rfl (fun _ => rfl)) ?_
      refine go_ops hΓ 6 rfl ?_
      refine eo_subCut hΓ hz27 rfl rfl rfl rfl rfl rfl rfl rfl ?_
      refine go_ops hΓ 4 rfl ?_
      obtain rfl := Option.some.inj h28
      exact fin_objs hΓ [] (.inr rfl) rfl rfl rfl rfl (.inl rfl)
set_option maxHeartbeats 8000000 in
theorem c_route_choose {answers : List (Str × Int)} {now : Str} {gain : Int} {r : Str} (h : m_route_choose answers now gain = some r) : EC Tryd.prog 65 [.map 0, S now, I gain] [mOb kS false (eN .i64) answers] fun g hp' => g = S r ∧ hp' = [mOb kS false (eN .i64) answers] := by
  refine ec_enter (Fr.of 0 _) Tryd.func65 rfl (Fr.of_ok _) (Nat.le_of_ble_eq_true rfl) fun _ => ?_
  refine go_in ?_
  unfold m_route_choose at h
  refine go hΓ 14 rfl ?_
  refine eo_range hΓ (kv := kS) (agg := false) (enc := (eN .i64)) answers rfl rfl rfl rfl rfl (Nat.le_of_ble_eq_true rfl) (fun mr1 bs2 cl3 hpm4 hbl5 hbn6 => ?_)
  refine eo_hp [mObS kS false (eN .i64) answers (rawM kS (eN .i64) mr1 bs2 cl3), .iter 0 cl3 []] rfl ?_
  refine go_ops hΓ 2 rfl ?_
  obtain ⟨q12, hq12, h13⟩ := bi_ok h
  refine go hΓ 1 rfl ?_
  refine j_rangeP hq12 hpm4 hbl5 hbn6 (fun s7 => [(0, .map 0), (1, S now), (2, I gain), (7, S s7), (13, .ptr 1 0)]) (fun sn9 s7 => [mObS kS false (eN .i64) answers (rawM kS (eN .i64) mr1 bs2 cl3), .iter 0 cl3 sn9]) ⟨⟨rfl, rfl, rfl, rfl, rfl, trivial⟩, [], rfl, .inl rfl⟩ (fun sn9 s7 hdone14 hstep15 => ?_)
  refine go hΓ 2 rfl ?_
  refine eo_next (kv := kS) (agg := false) (enc := (eN .i64)) answers mr1 bs2 cl3 sn9 [mOb kS false (eN .i64) answers, .dead] rfl rfl rfl rfl rfl (Nat.le_of_ble_eq_true rfl) (fun hdsn9 => ?_) (fun j10 x8 b11 hjsn9 hbsn9 hnsn9 => ?_)
  · have hqsn9 := hdone14 hdsn9
    subst hqsn9
    refine go_ops hΓ 15 rfl ?_
    refine eo_o rfl (op_lookupOk hΓ (kv := kS) (agg := false) (enc := (eN .i64)) answers now (0 : Int) rfl rfl rfl rfl key_str rfl rfl rfl rfl rfl rfl rfl) ?_
    refine go_ops hΓ 11 rfl ?_
    refine o_cut 8 [(1, S now), (7, S q12), (56, B (((mGet answers now).isSome) && (decide ((wi (((mGet answers now).getD 0) - ((mGet answers q12).getD 0)) : Int) < gain))))] [mOb kS false (eN .i64) answers, .dead] ?_ ?_
    · refine eo_gsplit rfl rfl (fun hb => ?_) (fun hb => ?_)
      · refine go_ops hΓ 3 rfl ?_
        refine eo_guard rfl ?_
        refine eo_o rfl (op_lookup hΓ (kv := kS) (agg := false) (enc := (eN .i64)) answers q12 (0 : Int) rfl rfl rfl rfl key_str rfl rfl rfl rfl rfl rfl rfl) ?_
        refine go_ops hΓ 5 rfl ?_
        exact ⟨⟨rfl, rfl, get_b rfl (and_t hb), trivial⟩, [], rfl, .inl rfl⟩
      · refine go_ops hΓ 9 rfl ?_
        exact ⟨⟨rfl, rfl, get_b rfl (and_f hb), trivial⟩, [], rfl, .inl rfl⟩
    · refine go_ops hΓ 2 rfl ?_
      refine j_cond rfl (fun hb => ?_) (fun hb => ?_)
      · have h16 := cT h13 hb
        refine go hΓ 8 rfl ?_
        obtain rfl := Option.some.inj h16
        exact fin_objs hΓ [_] (.inr rfl) rfl rfl rfl rfl (.inr ⟨HB.mk rfl, rfl⟩)
      · have h17 := cF h13 hb
        refine go hΓ 9 rfl ?_
        obtain rfl := Option.some.inj h17
        exact fin_objs hΓ [_] (.inr rfl) rfl rfl rfl rfl (.inr ⟨HB.mk rfl, rfl⟩)
  · obtain ⟨s18, h19⟩ := hstep15 j10 x8 b11 hjsn9 hbsn9 hnsn9
    have hssn9 := h19
    refine go_ops hΓ 10 rfl ?_
    refine eo_o rfl (op_entry (kv := kS) (agg := false) (enc := (eN .i64)) answers mr1 bs2 cl3 sn9 hjsn9 hbsn9 rfl rfl rfl rfl (fun _ => rfl)) ?_
    refine go_ops hΓ 11 rfl ?_
    refine o_cut 6 [(0, .map 0), (1, S now), (2, I gain), (7, S s7), (8, S x8.1), (9, I x8.2), (13, .ptr 1 0), (27, B (((s7 : Str) == []) || (decide ((x8.2 : Int) < ((mGet answers s7).getD 0)))))] [mObS kS false (eN .i64) answers (rawM kS (eN .i64) mr1 bs2 cl3), .iter 0 cl3 (sn9 ++ [b11])] ?_ ?_
    · refine eo_gsplit rfl rfl (fun hb => ?_) (fun hb => ?_)
      · refine go_ops hΓ 7 rfl ?_
        exact ⟨⟨rfl, rfl, rfl, rfl, rfl, rfl, rfl, get_b rfl (or_t hb), trivial⟩, [], rfl, .inl rfl⟩
      · refine go_ops hΓ 3 rfl ?_
        refine eo_guard rfl ?_
        refine eo_o rfl (op_lookup hΓ (kv := kS) (agg := false) (enc := (eN .i64)) answers s7 (0 : Int) rfl rfl rfl rfl key_str rfl rfl rfl rfl rfl rfl rfl) ?_
        refine go_ops hΓ 3 rfl ?_
        exact ⟨⟨rfl, rfl, rfl, rfl, rfl, rfl, rfl, get_b rfl (or_f hb), trivial⟩, [], rfl, .inl rfl⟩
    · refine go_ops hΓ 1 rfl ?_
      refine o_cut 11 [(0, .map 0), (1, S now), (2, I gain), (7, S s7), (8, S x8.1), (13, .ptr 1 0), (39, B ((((s7 : Str) == []) || (decide ((x8.2 : Int) < ((mGet answers s7).getD 0)))) || (((x8.2 : Int) == ((mGet answers s7).getD 0)) && (Op.bytesLess x8.1 s7))))] [mObS kS false (eN .i64) answers (rawM kS (eN .i64) mr1 bs2 cl3), .iter 0 cl3 (sn9 ++ [b11])] ?_ ?_
      · refine eo_gsplit rfl rfl (fun hb => ?_) (fun hb => ?_)
        · refine go_ops hΓ 12 rfl ?_
          exact ⟨⟨rfl, rfl, rfl, rfl, rfl, rfl, get_b rfl (or_t hb), trivial⟩, [], rfl, .inl rfl⟩
        · refine go_ops hΓ 3 rfl ?_
          refine eo_guard rfl ?_
          refine eo_o rfl (op_lookup hΓ (kv := kS) (agg := false) (enc := (eN .i64)) answers s7 (0 : Int) rfl rfl rfl rfl key_str rfl rfl rfl rfl rfl rfl rfl) ?_
          refine go_ops hΓ 2 rfl ?_
          refine o_cut 4 [(0, .map 0), (1, S now), (2, I gain), (7, S s7), (8, S x8.1), (13, .ptr 1 0), (28, B false), (38, B (((x8.2 : Int) == ((mGet answers s7).getD 0)) && (Op.bytesLess x8.1 s7)))] [mObS kS false (eN .i64) answers (rawM kS (eN .i64) mr1 bs2 cl3), .iter 0 cl3 (sn9 ++ [b11])] ?_ ?_
          · refine eo_gsplit rfl rfl (fun hb => ?_) (fun hb => ?_)
            · refine go_ops hΓ 5 rfl ?_
              exact ⟨⟨rfl, rfl, rfl, rfl, rfl, rfl, rfl, get_b rfl (and_t hb), trivial⟩, [], rfl, .inl rfl⟩
            · refine go_ops hΓ 5 rfl ?_
              exact ⟨⟨rfl, rfl, rfl, rfl, rfl, rfl, rfl, get_b rfl (and_f hb), trivial⟩, [], rfl, .inl rfl⟩
          · refine go_ops hΓ 2 rfl ?_
            exact ⟨⟨rfl, rfl, rfl, rfl, rfl, rfl, get_b rfl (or_f hb), trivial⟩, [], rfl, .inl rfl⟩
      · refine go_ops hΓ 2 rfl ?_
        refine j_cond rfl (fun hb => ?_) (fun hb => ?_)
        · have h20 := cT h19 hb
          refine go hΓ 5 rfl ?_
          obtain rfl := Option.some.inj h20
          exact ⟨j10, x8, b11, _, hjsn9, hbsn9, hnsn9, hssn9, ⟨⟨rfl, rfl, rfl, rfl, rfl, trivial⟩, [], rfl, .inl rfl⟩⟩
        · have h21 := cF h19 hb
          refine go hΓ 2 rfl ?_
          obtain rfl := Option.some.inj h21
          exact ⟨j10, x8, b11, _, hjsn9, hbsn9, hnsn9, hssn9, ⟨⟨rfl, rfl, rfl, rfl, rfl, trivial⟩, [], rfl, .inl rfl⟩⟩
set_option maxHeartbeats 8000000 in
theorem c_route_begins {l : List T_api_Turn} {v_at : Int} {who : Str} {r : List T_api_Turn} (h : m_route_begins l v_at who = some r) : EC Tryd.prog 66 [.sl 0 l.length, I v_at, S who] [.row 45 3 l.length (l.flatMap e_api_Turn)] fun g hp' => g = .sl 1 r.length ∧ hp' = [.dead, .row 45 3 r.length (r.flatMap e_api_Turn)] := by
  refine ec_enter (Fr.of 0 _) Tryd.func66 rfl (Fr.of_ok _) (Nat.le_of_ble_eq_true rfl) fun _ => ?_
  refine go_in ?_
  unfold m_route_begins at h
  refine go hΓ 2 rfl ?_
  refine eo_nilOwn (t := 0) 45 3 rfl (Nat.le_of_ble_eq_true rfl) ?_
  refine go_ops hΓ 16 rfl ?_
  obtain ⟨q1, hq1, h2⟩ := bi_ok h
  refine o_cut 7 [(0, .sl 0 l.length), (1, I v_at), (2, S who), (7, I (wi ((l.length : Int) - 1))), (20, B q1)] [.row 45 3 l.length (l.flatMap e_api_Turn), .row 45 3 ([] : List T_api_Turn).length (([] : List T_api_Turn).flatMap e_api_Turn)] ?_ ?_
  · refine eo_gsplit rfl rfl (fun hb => ?_) (fun hb => ?_)
    · have h3 := cT hq1 hb
      obtain ⟨x4, hx4, h5⟩ := bi_ok h3
      have hj6 := getZ_at hx4
      refine go_ops hΓ 2 rfl ?_
      refine eo_guard rfl ?_
      refine eo_o rfl (op_elemRowZ hΓ hx4 rfl rfl rfl rfl rfl rfl) ?_
      refine go_ops hΓ 1 rfl ?_
      refine eo_guard rfl ?_
      refine eo_o rfl (op_loadRowZ hΓ (enc := e_api_Turn) ((wi ((l.length : Int) - 1)).toNat) 2 hj6 rfl rfl rfl rfl (fun _ => rfl) (g := I x4.To) rfl) ?_
      refine go_ops hΓ 3 rfl ?_
      obtain rfl := Option.some.inj h5
      exact ⟨⟨rfl, rfl, rfl, rfl, rfl, trivial⟩, [], rfl, .inl rfl⟩
    · have h7 := cF hq1 hb
      refine go_ops hΓ 8 rfl ?_
      obtain rfl := Option.some.inj h7
      exact ⟨⟨rfl, rfl, rfl, rfl, rfl, trivial⟩, [], rfl, .inl rfl⟩
  · obtain ⟨q8, hq8, h9⟩ := bi_ok h2
    refine go_ops hΓ 2 rfl ?_
    refine j_cutSZ (q := q8) (fun a10 => [(0, .sl 0 a10.length), (1, I v_at), (2, S who)]) (fun a10 => [.row 45 3 a10.length (a10.flatMap e_api_Turn), .row 45 3 ([] : List T_api_Turn).length (([] : List T_api_Turn).flatMap e_api_Turn)]) ?_ ?_
    · refine j_cond rfl (fun hb => ?_) (fun hb => ?_)
      · have h11 := cT hq8 hb
        obtain ⟨x12, hx12, h13⟩ := bi_ok h11
        have hj14 := getZ_at hx12
        refine go hΓ 5 rfl ?_
        refine eo_o rfl (op_elemRowZ hΓ hx12 rfl rfl rfl rfl rfl rfl) ?_
        refine go_ops hΓ 1 rfl ?_
        refine eo_o rfl (op_loadRowZ hΓ (enc := e_api_Turn) ((wi ((l.length : Int) - 1)).toNat) 0 hj14 rfl rfl rfl rfl (fun _ => rfl) (g := S x12.Who) rfl) ?_
        refine go_ops hΓ 4 rfl ?_
        refine j_cond rfl (fun hb => ?_) (fun hb => ?_)
        · have h15 := cT h13 hb
          refine go hΓ 4 rfl ?_
          refine eo_shr 1 [] _ [.row 45 3 l.length (l.flatMap e_api_Turn), .dead] rfl rfl rfl (Nat.le_of_ble_eq_true rfl) ?_
          refine eo_move 0 1 [.dead, .row 45 3 l.length (l.flatMap e_api_Turn)] rfl rfl rfl rfl rfl rfl ?_
          refine go_ops hΓ 4 rfl ?_
          obtain ⟨v16, hv16, h17⟩ := bi_ok h15
          obtain rfl := Option.some.inj h17
          obtain rfl := Option.some.inj h9
          refine go hΓ 2 rfl ?_
          obtain rfl := Option.some.inj hv16
          exact fin_objs hΓ [] (.inr rfl) rfl rfl rfl rfl (.inl rfl)
        · have h18 := cF h13 hb
          obtain ⟨x19, hx19, h20⟩ := bi_ok h18
          have hj21 := getZ_at hx19
          refine go hΓ 7 rfl ?_
          refine eo_o rfl (op_elemRowZ hΓ hx19 rfl rfl rfl rfl rfl rfl) ?_
          refine go_ops hΓ 1 rfl ?_
          refine eo_storeRowZ hΓ (enc := e_api_Turn) (z' := (⟨x19.Who, x19.From, v_at⟩ : T_api_Turn)) ((wi ((l.length : Int) - 1)).toNat) 2 hj21 rfl rfl rfl rfl (fun _ => rfl) rfl rfl rfl rfl rfl rfl (Nat.le_of_ble_eq_true rfl) ?_
          refine eo_hp [.row 45 3 (l.set ((wi ((l.length : Int) - 1)).toNat) (⟨x19.Who, x19.From, v_at⟩ : T_api_Turn)).length ((l.set ((wi ((l.length : Int) - 1)).toNat) (⟨x19.Who, x19.From, v_at⟩ : T_api_Turn)).flatMap e_api_Turn), .row 45 3 ([] : List T_api_Turn).length (([] : List T_api_Turn).flatMap e_api_Turn)] rfl ?_
          refine eo_relen 0 (n' := (l.set ((wi ((l.length : Int) - 1)).toNat) (⟨x19.Who, x19.From, v_at⟩ : T_api_Turn)).length) rfl List.length_set.symm ?_
          obtain ⟨x22, hx22, h23⟩ := bi_ok h20
          have hj24 := getZ_at hx22
          refine go_ops hΓ 6 rfl ?_
          refine eo_o rfl (op_elemRowZ hΓ hx22 rfl rfl rfl rfl rfl rfl) ?_
          refine go_ops hΓ 1 rfl ?_
          refine eo_o rfl (op_loadRowZ hΓ (enc := e_api_Turn) ((wi ((l.length : Int) - 1)).toNat) 1 hj24 rfl rfl rfl rfl (fun _ => rfl) (g := I x22.From) rfl) ?_
          refine go_ops hΓ 4 rfl ?_
          refine j_cond rfl (fun hb => ?_) (fun hb => ?_)
          · have h25 := cT h23 hb
            obtain ⟨z26, hz26, h27⟩ := bi_ok h25
            refine go hΓ 3 rfl ?_
            refine eo_subRowZ hΓ (enc := e_api_Turn) hz26 rfl rfl rfl rfl rfl rfl rfl rfl (fun _ => rfl) rfl (Nat.le_of_ble_eq_true rfl) ?_
            refine go_ops hΓ 2 rfl ?_
            obtain rfl := Option.some.inj h27
            exact ⟨_, rfl, ⟨⟨rfl, rfl, rfl, trivial⟩, [], rfl, .inl rfl⟩⟩
          · have h28 := cF h23 hb
            refine go hΓ 1 rfl ?_
            obtain rfl := Option.some.inj h28
            exact ⟨_, rfl, ⟨⟨rfl, rfl, rfl, trivial⟩, [], rfl, .inl rfl⟩⟩
      · have h29 := cF hq8 hb
        refine go hΓ 1 rfl ?_
        obtain rfl := Option.some.inj h29
        exact ⟨_, rfl, ⟨⟨rfl, rfl, rfl, trivial⟩, [], rfl, .inl rfl⟩⟩
    · intro a10 ha
      subst ha
      replace h9 := orI_l h9
      refine go hΓ 8 rfl ?_
      refine j_cond rfl (fun hb => ?_) (fun hb => ?_)
      · have h30 := cT h9 hb
        refine go hΓ 4 rfl ?_
        refine eo_shr 1 [] _ [.row 45 3 a10.length (a10.flatMap e_api_Turn), .dead] rfl rfl rfl (Nat.le_of_ble_eq_true rfl) ?_
        refine eo_move 0 1 [.dead, .row 45 3 a10.length (a10.flatMap e_api_Turn)] rfl rfl rfl rfl rfl rfl ?_
        refine go_ops hΓ 4 rfl ?_
        obtain rfl := Option.some.inj h30
        exact fin_objs hΓ [] (.inr rfl) rfl rfl rfl rfl (.inl rfl)
      · have h31 := cF h9 hb
        refine go hΓ 7 rfl ?_
        refine eo_build hΓ (gs := [S who, I v_at, I 345686400]) rfl rfl rfl rfl rfl rfl rfl ?_
        refine eo_litT hΓ (enc := e_api_Turn) [(⟨who, v_at, 345686400⟩ : T_api_Turn)] rfl rfl rfl rfl rfl rfl rfl rfl rfl rfl rfl rfl (Nat.le_of_ble_eq_true rfl) ?_
        obtain ⟨y32, hy32, h33⟩ := bi_ok h31
        refine eo_s (Nat.le_of_ble_eq_true rfl) (nblt.1 rfl) (ops_appendT hΓ (enc := e_api_Turn) (id := 0) (h2 := show Γ 45 = some ⟨_, 3, _, _⟩ from rfl) hy32 rfl rfl rfl rfl rfl rfl rfl rfl (fun _ => rfl) rfl) ?_
        refine go_ops hΓ 1 rfl ?_
        refine eo_shr 1 [] _ [.dead, .dead, .row 45 3 y32.length (y32.flatMap e_api_Turn)] rfl rfl rfl (Nat.le_of_ble_eq_true rfl) ?_
        refine eo_move 2 1 [.dead, .row 45 3 y32.length (y32.flatMap e_api_Turn), .dead] rfl rfl rfl rfl rfl rfl ?_
        refine go_ops hΓ 3 rfl ?_
        obtain rfl := Option.some.inj h33
        exact fin_objs hΓ [_] (.inr rfl) rfl rfl rfl rfl (.inr ⟨HB.mk rfl, rfl⟩)
set_option maxHeartbeats 8000000 in
theorem c_route_homes {k : Nat} {l : List T_api_Probe} {gain : Int} {node : Str} {r : List T_api_Turn} (h : m_route_homes k l gain node = some r) : EC Tryd.prog 43 [.d (Sl e_api_Probe l), I gain, S node] [] fun g hp' => g = .sl 0 r.length ∧ hp' = [.row 45 3 r.length (r.flatMap e_api_Turn)] := by
  refine ec_enterC (Fr.of 0 _) Tryd.func43 rfl (Fr.of_ok _) (Nat.le_of_ble_eq_true rfl) fun _ => ?_
  refine go_in ?_
  unfold m_route_homes at h
  refine go hΓ 2 rfl ?_
  refine eo_box rfl rfl rfl rfl (Nat.le_of_ble_eq_true rfl) ?_
  refine go_ops hΓ 5 rfl ?_
  refine eo_nilOwn (t := 0) 45 3 rfl (Nat.le_of_ble_eq_true rfl) ?_
  obtain ⟨y1, hy1, h2⟩ := bi_ok h
  refine go_ops hΓ 10 rfl ?_
  refine eo_callF [] (.sl 2 y1.length) [.box 9 [S node], .row 45 3 ([] : List T_api_Turn).length (([] : List T_api_Turn).flatMap e_api_Turn), .row 67 4 y1.length (y1.flatMap e_api_Probe)] (callable Tryd.func70 rfl rfl) (c_slices_Clone_api_Probe_api_Probe hy1) rfl (Nat.le_of_ble_eq_true rfl) rfl rfl rfl rfl rfl rfl rfl rfl rfl rfl ?_
  obtain ⟨y3, hy3, h4⟩ := bi_ok h2
  refine go_ops hΓ 1 rfl ?_
  refine eo_callF [2, 0] (.sl 2 y3.length) [.box 9 [S node], .row 45 3 ([] : List T_api_Turn).length (([] : List T_api_Turn).flatMap e_api_Turn), .row 67 4 y3.length (y3.flatMap e_api_Probe)] (callable Tryd.func69 rfl rfl) (c_slices_DeleteFunc_api_Probe_api_Probe hy3) rfl (Nat.le_of_ble_eq_true rfl) rfl rfl rfl rfl rfl rfl rfl rfl rfl rfl ?_
  refine go_ops hΓ 9 rfl ?_
  obtain ⟨q8, hq8, h9⟩ := bi_ok h4
  refine j_cutNZ [(7, .sl 1 q8.length)] [.box 9 [S node], .row 45 3 q8.length (q8.flatMap e_api_Turn), .row 67 4 y3.length (y3.flatMap e_api_Probe)] ?_ ?_
  · refine go hΓ 1 rfl ?_
    refine j_loop hq8 (fun s6 => [(1, I gain), (7, .sl 1 s6.1.length), (8, S s6.2.1), (9, .sl 2 y3.length), (10, I s6.2.2)]) (fun s6 => [.box 9 [S node], .row 45 3 s6.1.length (s6.1.flatMap e_api_Turn), .row 67 4 y3.length (y3.flatMap e_api_Probe)]) ⟨⟨rfl, rfl, rfl, rfl, rfl, trivial⟩, [], rfl, .inl rfl⟩ (fun s6 y14 hy12 hout13 => ?_)
    refine go hΓ 9 rfl ?_
    refine j_cond rfl (fun hb => ?_) (fun hb => ?_)
    · have h15 := cT hy12 hb
      obtain ⟨x16, hx16, h17⟩ := bi_ok h15
      have hj18 := getZ_at hx16
      refine go hΓ 7 rfl ?_
      refine eo_o rfl (op_elemRowZ hΓ hx16 rfl rfl rfl rfl rfl rfl) ?_
      refine go_ops hΓ 1 rfl ?_
      refine eo_o rfl (op_loadRowZ hΓ (enc := e_api_Probe) s6.2.2.toNat 0 hj18 rfl rfl rfl rfl (fun _ => rfl) (g := I x16.At) rfl) ?_
      refine go_ops hΓ 5 rfl ?_
      refine eo_s (Nat.le_of_ble_eq_true rfl) (nblt.1 rfl) (ops_makeMap false) ?_
      refine eo_hp [.box 9 [S node], .row 45 3 s6.1.length (s6.1.flatMap e_api_Turn), .row 67 4 y3.length (y3.flatMap e_api_Probe), mOb kS false (eN .i64) ([] : List (Str × Int))] rfl ?_
      refine go_ops hΓ 4 rfl ?_
      obtain ⟨q22, hq22, h23⟩ := bi_ok h17
      refine j_cutNZ [(1, I gain), (7, .sl 1 s6.1.length), (8, S s6.2.1), (9, .sl 2 y3.length), (10, I q22.2), (11, I x16.At), (12, .map 3)] [.box 9 [S node], .row 45 3 s6.1.length (s6.1.flatMap e_api_Turn), .row 67 4 y3.length (y3.flatMap e_api_Probe), mOb kS false (eN .i64) q22.1] ?_ ?_
      · refine go hΓ 1 rfl ?_
        refine j_loop hq22 (fun s20 => [(1, I gain), (7, .sl 1 s6.1.length), (8, S s6.2.1), (9, .sl 2 y3.length), (10, I s20.2), (11, I x16.At), (12, .map 3)]) (fun s20 => [.box 9 [S node], .row 45 3 s6.1.length (s6.1.flatMap e_api_Turn), .row 67 4 y3.length (y3.flatMap e_api_Probe), mOb kS false (eN .i64) s20.1]) ⟨⟨rfl, rfl, rfl, rfl, rfl, rfl, rfl, trivial⟩, [], rfl, .inl rfl⟩ (fun s20 y28 hy26 hout27 => ?_)
        refine go hΓ 8 rfl ?_
        obtain ⟨q29, hq29, h30⟩ := bi_ok hy26
        refine o_cut 8 [(1, I gain), (7, .sl 1 s6.1.length), (8, S s6.2.1), (9, .sl 2 y3.length), (10, I s20.2), (11, I x16.At), (12, .map 3), (39, B q29)] [.box 9 [S node], .row 45 3 s6.1.length (s6.1.flatMap e_api_Turn), .row 67 4 y3.length (y3.flatMap e_api_Probe), mOb kS false (eN .i64) s20.1] ?_ ?_
        · refine eo_gsplit rfl rfl (fun hb => ?_) (fun hb => ?_)
          · have h31 := cT hq29 hb
            obtain ⟨x32, hx32, h33⟩ := bi_ok h31
            have hj34 := getZ_at hx32
            refine go_ops hΓ 2 rfl ?_
            refine eo_guard rfl ?_
            refine eo_o rfl (op_elemRowZ hΓ hx32 rfl rfl rfl rfl rfl rfl) ?_
            refine go_ops hΓ 1 rfl ?_
            refine eo_guard rfl ?_
            refine eo_o rfl (op_loadRowZ hΓ (enc := e_api_Probe) s20.2.toNat 0 hj34 rfl rfl rfl rfl (fun _ => rfl) (g := I x32.At) rfl) ?_
            refine go_ops hΓ 4 rfl ?_
            obtain rfl := Option.some.inj h33
            exact ⟨⟨rfl, rfl, rfl, rfl, rfl, rfl, rfl, rfl, trivial⟩, [], rfl, .inl rfl⟩
          · have h35 := cF hq29 hb
            refine go_ops hΓ 9 rfl ?_
            obtain rfl := Option.some.inj h35
            exact ⟨⟨rfl, rfl, rfl, rfl, rfl, rfl, rfl, rfl, trivial⟩, [], rfl, .inl rfl⟩
        · refine go_ops hΓ 2 rfl ?_
          refine j_cond rfl (fun hb => ?_) (fun hb => ?_)
          · have h36 := cT h30 hb
            obtain ⟨x37, hx37, h38⟩ := bi_ok h36
            have hj39 := getZ_at hx37
            refine go hΓ 8 rfl ?_
            refine eo_o rfl (op_elemRowZ hΓ hx37 rfl rfl rfl rfl rfl rfl) ?_
            refine go_ops hΓ 1 rfl ?_
            refine eo_o rfl (op_loadRowZ hΓ (enc := e_api_Probe) s20.2.toNat 3 hj39 rfl rfl rfl rfl (fun _ => rfl) (g := I x37.Millis) rfl) ?_
            refine go_ops hΓ 3 rfl ?_
            refine j_cond rfl (fun hb => ?_) (fun hb => ?_)
            · have h40 := cT h38 hb
              refine j_drawE [.dead, .dead, .row 67 4 y3.length (y3.flatMap e_api_Probe)] [5, 10] [11] [] hmix (by kernel_rfl) (by kernel_rfl) ⟨rfl, trivial⟩ (Nat.le_of_ble_eq_true rfl) ?_
              obtain ⟨x41, hx41, h42⟩ := bi_ok h40
              have hj43 := getZ_at hx41
              refine go_E hΓ 3 rfl ?_
              refine ge_q rfl (.inl rfl) (fun _ _ => qte_of_qt (qt_p (op_elemRowZ hΓ hx41 rfl rfl rfl rfl rfl rfl))) ?_
              refine go_E hΓ 1 rfl ?_
              refine ge_p rfl (fun hp hs => op_loadRowZ hΓ (enc := e_api_Probe) s20.2.toNat 2 hj43 rfl rfl rfl (hs 2 _ rfl rfl) (fun _ => rfl) (g := S x41.Relay) rfl) rfl ?_
              obtain ⟨x44, hx44, h45⟩ := bi_ok h42
              have hj46 := getZ_at hx44
              refine go_E hΓ 2 rfl ?_
              refine ge_q rfl (.inl rfl) (fun _ _ => qte_of_qt (qt_p (op_elemRowZ hΓ hx44 rfl rfl rfl rfl rfl rfl))) ?_
              refine go_E hΓ 1 rfl ?_
              refine ge_p rfl (fun hp hs => op_loadRowZ hΓ (enc := e_api_Probe) s20.2.toNat 3 hj46 rfl rfl rfl (hs 2 _ rfl rfl) (fun _ => rfl) (g := I x44.Millis) rfl) rfl ?_
              refine ge_h0 [.box 9 [S node], .row 45 3 s6.1.length (s6.1.flatMap e_api_Turn), .row 67 4 y3.length (y3.flatMap e_api_Probe), mOb kS false (eN .i64) (mSet s20.1 x41.Relay x44.Millis)] rfl rfl (st_st ⟨rfl, trivial⟩) (qte_u (opu_mapUpdate hΓ (kv := kS) (agg := false) (enc := (eN .i64)) (id := 3) s20.1 x41.Relay x44.Millis rfl rfl rfl key_str rfl rfl rfl rfl rfl)) ?_
              refine ge_fin ?_
              refine go hΓ 7 rfl ?_
              obtain rfl := Option.some.inj h45
              exact ⟨_, rfl, ⟨⟨rfl, rfl, rfl, rfl, rfl, rfl, rfl, trivial⟩, [], rfl, .inl rfl⟩⟩
            · have h47 := cF h38 hb
              refine go hΓ 8 rfl ?_
              obtain rfl := Option.some.inj h47
              exact ⟨_, rfl, ⟨⟨rfl, rfl, rfl, rfl, rfl, rfl, rfl, trivial⟩, [], rfl, .inl rfl⟩⟩
          · have h48 := cF h30 hb
            refine go hΓ 4 rfl ?_
            obtain rfl := Option.some.inj h48
            obtain rfl := hout27 _ rfl
            exact ⟨⟨rfl, rfl, rfl, rfl, rfl, rfl, rfl, trivial⟩, [], rfl, .inl rfl⟩
      · refine go hΓ 5 rfl ?_
        refine eo_o rfl (op_lenMap hΓ (kv := kS) (agg := false) (enc := (eN .i64)) q22.1 rfl rfl rfl rfl) ?_
        refine go_ops hΓ 3 rfl ?_
        refine j_cond rfl (fun hb => ?_) (fun hb => ?_)
        · have h49 := cT h23 hb
          refine go hΓ 3 rfl ?_
          obtain rfl := Option.some.inj h49
          exact ⟨_, rfl, ⟨⟨rfl, rfl, rfl, rfl, rfl, trivial⟩, [_], rfl, .inr ⟨HB.mk rfl, FB.mk rfl, (Nat.le_of_ble_eq_true rfl)⟩⟩⟩
        · have h50 := cF h23 hb
          obtain ⟨y51, hy51, h52⟩ := bi_ok h50
          refine go hΓ 7 rfl ?_
          refine eo_callF [3] (S y51) [.box 9 [S node], .row 45 3 s6.1.length (s6.1.flatMap e_api_Turn), .row 67 4 y3.length (y3.flatMap e_api_Probe), mOb kS false (eN .i64) q22.1] (callable Tryd.func65 rfl rfl) (c_route_choose hy51) rfl (Nat.le_of_ble_eq_true rfl) rfl rfl rfl rfl rfl rfl rfl rfl rfl rfl ?_
          obtain ⟨y53, hy53, h54⟩ := bi_ok h52
          refine go_ops hΓ 7 rfl ?_
          refine eo_callF [1] (.sl 4 y53.length) [.box 9 [S node], .dead, .row 67 4 y3.length (y3.flatMap e_api_Probe), mOb kS false (eN .i64) q22.1, .row 45 3 y53.length (y53.flatMap e_api_Turn)] (callable Tryd.func66 rfl rfl) (c_route_begins hy53) rfl (Nat.le_of_ble_eq_true rfl) rfl rfl rfl rfl rfl rfl rfl rfl rfl rfl ?_
          refine go_ops hΓ 1 rfl ?_
          refine eo_move 4 1 [.box 9 [S node], .row 45 3 y53.length (y53.flatMap e_api_Turn), .row 67 4 y3.length (y3.flatMap e_api_Probe), mOb kS false (eN .i64) q22.1, .dead] rfl rfl rfl rfl rfl rfl ?_
          refine go_ops hΓ 2 rfl ?_
          obtain rfl := Option.some.inj h54
          exact ⟨_, rfl, ⟨⟨rfl, rfl, rfl, rfl, rfl, trivial⟩, [_, _], rfl, .inr ⟨HB.mk rfl, FB.mk rfl, (Nat.le_of_ble_eq_true rfl)⟩⟩⟩
    · have h55 := cF hy12 hb
      refine go hΓ 4 rfl ?_
      obtain rfl := Option.some.inj h55
      obtain rfl := hout13 _ rfl
      exact ⟨⟨rfl, trivial⟩, [], rfl, .inl rfl⟩
  · refine go hΓ 8 rfl ?_
    refine cv_kill 0 [.dead, .row 45 3 q8.length (q8.flatMap e_api_Turn), .row 67 4 y3.length (y3.flatMap e_api_Probe)] rfl (Nat.le_of_ble_eq_true rfl) ?_
    refine cv_move 1 0 [.row 45 3 q8.length (q8.flatMap e_api_Turn), .dead, .row 67 4 y3.length (y3.flatMap e_api_Probe)] rfl rfl rfl rfl rfl rfl ?_
    refine cv_here ?_
    obtain rfl := Option.some.inj h9
    exact fin_objs hΓ [_, _] (.inr rfl) rfl rfl rfl rfl (.inr ⟨HB.mk rfl, rfl⟩)
theorem c_route_whoAt {l : List T_api_Turn} {v_at : Int} {r : Str} (h : m_route_whoAt l v_at = some r) : Pure Tryd.prog 42 [.d (Sl e_api_Turn l), I v_at] (S r) := by
  refine Pure.enter (Fr.of 0 _) Tryd.func42 rfl (Fr.of_ok _) rfl rfl ?_
  refine go_in ?_
  unfold m_route_whoAt at h
  refine go hΓ 13 rfl ?_
  obtain ⟨q4, hq4, h5⟩ := bi_ok h
  refine j_bound 7 rfl fun hb7 => ?_
  refine j_cutEZ (R := fun a6 => q4 = .go a6) (fun a6 => []) (fun a6 => []) ?_ ?_
  · refine go hΓ 1 rfl ?_
    refine j_range l hq4 (fun i1 s2 => [(1, I v_at), (7, .d (Sl e_api_Turn l)), (8, I (l.length : Int)), (9, I (i1 : Int))]) (fun s2 => []) ⟨⟨rfl, rfl, rfl, rfl, trivial⟩, [], rfl, .inl rfl⟩ (fun i1 x3 s2 y11 hx8 hlt hy9 hout10 => ?_) (fun s2 hgo => ?_)
    · refine go hΓ 6 rfl ?_
      refine j_condT rfl (decide_eq_true (Int.ofNat_lt.2 hlt)) ?_
      refine go hΓ 6 rfl ?_
      refine eo_o rfl (op_elemZ hΓ (enc := e_api_Turn) (getZ_nat hx8) rfl rfl rfl rfl rfl (fun _ => rfl)) ?_
      refine go_ops hΓ 1 rfl ?_
      refine eo_alloc hΓ rfl rfl rfl (Nat.le_of_ble_eq_true rfl) ?_
      refine eo_store hΓ rfl rfl rfl rfl rfl rfl rfl rfl (Nat.le_of_ble_eq_true rfl) ?_
      refine eo_hp [.box 45 [S x3.Who, I x3.From, I x3.To]] rfl ?_
      refine go_ops hΓ 9 rfl ?_
      refine o_cut 5 [(1, I v_at), (6, .ptr 0 0), (7, .d (Sl e_api_Turn l)), (8, I (l.length : Int)), (9, I (i1 : Int)), (22, B ((decide ((x3.From : Int) ≤ v_at)) && (decide ((v_at : Int) < x3.To))))] [.box 45 [S x3.Who, I x3.From, I x3.To]] ?_ ?_
      · refine eo_gsplit rfl rfl (fun hb => ?_) (fun hb => ?_)
        · refine go_ops hΓ 6 rfl ?_
          exact ⟨⟨rfl, rfl, rfl, rfl, rfl, get_b rfl (and_t hb), trivial⟩, [], rfl, .inl rfl⟩
        · refine go_ops hΓ 6 rfl ?_
          exact ⟨⟨rfl, rfl, rfl, rfl, rfl, get_b rfl (and_f hb), trivial⟩, [], rfl, .inl rfl⟩
      · refine go_ops hΓ 2 rfl ?_
        refine j_cond rfl (fun hb => ?_) (fun hb => ?_)
        · have h12 := cT hy9 hb
          refine go hΓ 10 rfl ?_
          obtain ⟨v13, hv13, h14⟩ := bi_ok h12
          obtain rfl := Option.some.inj h14
          obtain rfl := hout10 _ rfl
          obtain rfl := Option.some.inj h5
          refine go hΓ 4 rfl ?_
          obtain rfl := Option.some.inj hv13
          exact fin_pure hΓ (.inr rfl) rfl rfl
        · have h15 := cF hy9 hb
          refine go hΓ 7 rfl ?_
          obtain rfl := Option.some.inj h15
          exact ⟨_, rfl, ⟨⟨rfl, rfl, rfl, get_eq rfl (w64_succ (Nat.lt_of_lt_of_le hlt hb7)), trivial⟩, [_], rfl, .inr ⟨HB.mk rfl, FB.mk rfl, (Nat.le_of_ble_eq_true rfl)⟩⟩⟩
    · subst hgo
      refine go hΓ 6 rfl ?_
      refine j_condF rfl (decide_eq_false (Int.lt_irrefl _)) ?_
      refine go hΓ 4 rfl ?_
      exact ⟨_, rfl, ⟨trivial, [], rfl, .inl rfl⟩⟩
  · intro a6 ha
    subst ha
    replace h5 := goI_l h5
    refine go hΓ 7 rfl ?_
    obtain rfl := Option.some.inj h5
    exact fin_pure hΓ (.inr rfl) rfl rfl
theorem c_route_told {l : List T_api_Probe} {node : Str} {relay : Str} {v_at : Int} {r : Int} (h : m_route_told l node relay v_at = some r) : Pure Tryd.prog 61 [.d (Sl e_api_Probe l), S node, S relay, I v_at] (I r) := by
  refine Pure.enter (Fr.of 0 _) Tryd.func61 rfl (Fr.of_ok _) rfl rfl ?_
  refine go_in ?_
  unfold m_route_told at h
  refine go hΓ 18 rfl ?_
  obtain ⟨q4, hq4, h5⟩ := bi_ok h
  refine j_bound 12 rfl fun hb7 => ?_
  refine j_cutNZ [(9, I q4)] [] ?_ ?_
  · refine go hΓ 1 rfl ?_
    refine j_rangeF l hq4 (fun i1 s2 => [(1, S node), (2, S relay), (3, I v_at), (9, I s2), (12, .d (Sl e_api_Probe l)), (13, I (l.length : Int)), (14, I (i1 : Int))]) (fun s2 => []) ⟨⟨rfl, rfl, rfl, rfl, rfl, rfl, rfl, trivial⟩, [], rfl, .inl rfl⟩ (fun i1 x3 s2 y11 hx8 hlt hy9 => ?_) (?_)
    · refine go hΓ 6 rfl ?_
      refine j_condT rfl (decide_eq_true (Int.ofNat_lt.2 hlt)) ?_
      refine go hΓ 6 rfl ?_
      refine eo_o rfl (op_elemZ hΓ (enc := e_api_Probe) (getZ_nat hx8) rfl rfl rfl rfl rfl (fun _ => rfl)) ?_
      refine go_ops hΓ 1 rfl ?_
      refine eo_alloc hΓ rfl rfl rfl (Nat.le_of_ble_eq_true rfl) ?_
      refine eo_store hΓ rfl rfl rfl rfl rfl rfl rfl rfl (Nat.le_of_ble_eq_true rfl) ?_
      refine eo_hp [.box 67 [I x3.At, S x3.Node, S x3.Relay, I x3.Millis]] rfl ?_
      refine go_ops hΓ 9 rfl ?_
      refine o_cut 5 [(1, S node), (2, S relay), (3, I v_at), (9, I s2), (11, .ptr 0 0), (12, .d (Sl e_api_Probe l)), (13, I (l.length : Int)), (14, I (i1 : Int)), (27, B ((decide ((x3.At : Int) ≤ v_at)) && ((x3.Node : Str) == node)))] [.box 67 [I x3.At, S x3.Node, S x3.Relay, I x3.Millis]] ?_ ?_
      · refine eo_gsplit rfl rfl (fun hb => ?_) (fun hb => ?_)
        · refine go_ops hΓ 6 rfl ?_
          exact ⟨⟨rfl, rfl, rfl, rfl, rfl, rfl, rfl, rfl, get_b rfl (and_t hb), trivial⟩, [], rfl, .inl rfl⟩
        · refine go_ops hΓ 6 rfl ?_
          exact ⟨⟨rfl, rfl, rfl, rfl, rfl, rfl, rfl, rfl, get_b rfl (and_f hb), trivial⟩, [], rfl, .inl rfl⟩
      · refine go_ops hΓ 1 rfl ?_
        refine o_cut 5 [(1, S node), (2, S relay), (3, I v_at), (9, I s2), (11, .ptr 0 0), (12, .d (Sl e_api_Probe l)), (13, I (l.length : Int)), (14, I (i1 : Int)), (33, B (((decide ((x3.At : Int) ≤ v_at)) && ((x3.Node : Str) == node)) && ((x3.Relay : Str) == relay)))] [.box 67 [I x3.At, S x3.Node, S x3.Relay, I x3.Millis]] ?_ ?_
        · refine eo_gsplit rfl rfl (fun hb => ?_) (fun hb => ?_)
          · refine go_ops hΓ 6 rfl ?_
            exact ⟨⟨rfl, rfl, rfl, rfl, rfl, rfl, rfl, rfl, get_b rfl (and_t hb), trivial⟩, [], rfl, .inl rfl⟩
          · refine go_ops hΓ 6 rfl ?_
            exact ⟨⟨rfl, rfl, rfl, rfl, rfl, rfl, rfl, rfl, get_b rfl (and_f hb), trivial⟩, [], rfl, .inl rfl⟩
        · refine go_ops hΓ 1 rfl ?_
          refine o_cut 4 [(1, S node), (2, S relay), (3, I v_at), (9, I s2), (11, .ptr 0 0), (12, .d (Sl e_api_Probe l)), (13, I (l.length : Int)), (14, I (i1 : Int)), (38, B ((((decide ((x3.At : Int) ≤ v_at)) && ((x3.Node : Str) == node)) && ((x3.Relay : Str) == relay)) && (decide ((x3.Millis : Int) ≥ 0))))] [.box 67 [I x3.At, S x3.Node, S x3.Relay, I x3.Millis]] ?_ ?_
          · refine eo_gsplit rfl rfl (fun hb => ?_) (fun hb => ?_)
            · refine go_ops hΓ 5 rfl ?_
              exact ⟨⟨rfl, rfl, rfl, rfl, rfl, rfl, rfl, rfl, get_b rfl (and_t hb), trivial⟩, [], rfl, .inl rfl⟩
            · refine go_ops hΓ 5 rfl ?_
              exact ⟨⟨rfl, rfl, rfl, rfl, rfl, rfl, rfl, rfl, get_b rfl (and_f hb), trivial⟩, [], rfl, .inl rfl⟩
          · refine go_ops hΓ 2 rfl ?_
            refine j_cond rfl (fun hb => ?_) (fun hb => ?_)
            · have h12 := cT hy9 hb
              refine go hΓ 11 rfl ?_
              obtain rfl := Option.some.inj h12
              exact ⟨⟨rfl, rfl, rfl, rfl, rfl, rfl, get_eq rfl (w64_succ (Nat.lt_of_lt_of_le hlt hb7)), trivial⟩, [_], rfl, .inr ⟨HB.mk rfl, FB.mk rfl, (Nat.le_of_ble_eq_true rfl)⟩⟩
            · have h13 := cF hy9 hb
              refine go hΓ 7 rfl ?_
              obtain rfl := Option.some.inj h13
              exact ⟨⟨rfl, rfl, rfl, rfl, rfl, rfl, get_eq rfl (w64_succ (Nat.lt_of_lt_of_le hlt hb7)), trivial⟩, [_], rfl, .inr ⟨HB.mk rfl, FB.mk rfl, (Nat.le_of_ble_eq_true rfl)⟩⟩
    · refine go hΓ 6 rfl ?_
      refine j_condF rfl (decide_eq_false (Int.lt_irrefl _)) ?_
      refine go hΓ 4 rfl ?_
      exact ⟨⟨rfl, trivial⟩, [], rfl, .inl rfl⟩
  · refine go hΓ 8 rfl ?_
    obtain rfl := Option.some.inj h5
    exact fin_pure hΓ (.inr rfl) rfl rfl
set_option maxHeartbeats 8000000 in
theorem c_route_Relayed {k : Nat} {l : List T_api_Probe} {links : List T_api_Link} {gain : Int} {a : Str} {b : Str} {v_at : Int} {al : BagT} {r : (List Str) × Int × Int × BagT} (h : m_route_Relayed k l links gain a b v_at al = some r) : EC Tryd.prog 29 [.d (Sl e_api_Probe l), .d (Sl e_api_Link links), I gain, S a, S b, I v_at] [.bag al.1 (arX al.2) []] fun g hp' => g = .tup [.d (Sl eS r.1), I r.2.1, I r.2.2.1] ∧ hp' = [.bag r.2.2.2.1 (arX r.2.2.2.2) []] := by
  refine ec_enter (Fr.of 0 _) Tryd.func29 rfl (Fr.of_ok _) (Nat.le_of_ble_eq_true rfl) fun _ => ?_
  refine go_in ?_
  unfold m_route_Relayed at h
  obtain ⟨y1, hy1, h2⟩ := bi_ok h
  refine go hΓ 11 rfl ?_
  refine eo_callP (callable Tryd.func13 rfl rfl) (c_route_CheckProbes hy1) rfl (Nat.le_of_ble_eq_true rfl) rfl rfl rfl rfl rfl ?_
  refine go_ops hΓ 9 rfl ?_
  refine j_cond rfl (fun hb => ?_) (fun hb => ?_)
  · have h3 := cT h2 hb
    refine go hΓ 10 rfl ?_
    obtain rfl := Option.some.inj h3
    exact fin_objs hΓ [] (.inr rfl) rfl rfl rfl rfl (.inl rfl)
  · have h4 := cF h2 hb
    obtain ⟨y5, hy5, h6⟩ := bi_ok h4
    refine go hΓ 6 rfl ?_
    refine eo_callP (callable Tryd.func26 rfl rfl) (c_route_CheckLinks hy5) rfl (Nat.le_of_ble_eq_true rfl) rfl rfl rfl rfl rfl ?_
    refine go_ops hΓ 9 rfl ?_
    refine j_cond rfl (fun hb => ?_) (fun hb => ?_)
    · have h7 := cT h6 hb
      refine go hΓ 10 rfl ?_
      obtain rfl := Option.some.inj h7
      exact fin_objs hΓ [] (.inr rfl) rfl rfl rfl rfl (.inl rfl)
    · have h8 := cF h6 hb
      obtain ⟨y9, hy9, h10⟩ := bi_ok h8
      refine go hΓ 6 rfl ?_
      refine eo_callP (callable Tryd.func60 rfl rfl) (c_route_gainFault hy9) rfl (Nat.le_of_ble_eq_true rfl) rfl rfl rfl rfl rfl ?_
      refine go_ops hΓ 9 rfl ?_
      refine j_cond rfl (fun hb => ?_) (fun hb => ?_)
      · have h11 := cT h10 hb
        refine go hΓ 10 rfl ?_
        obtain rfl := Option.some.inj h11
        exact fin_objs hΓ [] (.inr rfl) rfl rfl rfl rfl (.inl rfl)
      · have h12 := cF h10 hb
        obtain ⟨y13, hy13, h14⟩ := bi_ok h12
        refine go hΓ 7 rfl ?_
        refine eo_callP (callable Tryd.func51 rfl rfl) (c_kit_IsKey hy13) rfl (Nat.le_of_ble_eq_true rfl) rfl rfl rfl rfl rfl ?_
        refine go_ops hΓ 2 rfl ?_
        obtain ⟨q15, hq15, h16⟩ := bi_ok h14
        refine o_cut 4 [(0, .d (Sl e_api_Probe l)), (1, .d (Sl e_api_Link links)), (2, I gain), (3, S a), (4, S b), (5, I v_at), (46, B q15)] [.bag al.1 (arX al.2) []] ?_ ?_
        · refine eo_gsplit rfl rfl (fun hb => ?_) (fun hb => ?_)
          · have h17 := cT hq15 hb
            refine go_ops hΓ 5 rfl ?_
            obtain rfl := Option.some.inj h17
            exact ⟨⟨rfl, rfl, rfl, rfl, rfl, rfl, rfl, trivial⟩, [], rfl, .inl rfl⟩
          · have h18 := cF hq15 hb
            obtain ⟨y19, hy19, h20⟩ := bi_ok h18
            refine go_ops hΓ 1 rfl ?_
            refine eo_guard rfl ?_
            refine eo_callP (callable Tryd.func51 rfl rfl) (c_kit_IsKey hy19) rfl (Nat.le_of_ble_eq_true rfl) rfl rfl rfl rfl rfl ?_
            refine go_ops hΓ 3 rfl ?_
            obtain rfl := Option.some.inj h20
            exact ⟨⟨rfl, rfl, rfl, rfl, rfl, rfl, rfl, trivial⟩, [], rfl, .inl rfl⟩
        · refine go_ops hΓ 3 rfl ?_
          refine j_cond rfl (fun hb => ?_) (fun hb => ?_)
          · have h21 := cT h16 hb
            refine go hΓ 10 rfl ?_
            obtain rfl := Option.some.inj h21
            exact fin_objs hΓ [] (.inr rfl) rfl rfl rfl rfl (.inl rfl)
          · have h22 := cF h16 hb
            refine go hΓ 8 rfl ?_
            refine j_cond rfl (fun hb => ?_) (fun hb => ?_)
            · have h23 := cT h22 hb
              refine go hΓ 10 rfl ?_
              obtain rfl := Option.some.inj h23
              exact fin_objs hΓ [] (.inr rfl) rfl rfl rfl rfl (.inl rfl)
            · have h24 := cF h22 hb
              obtain ⟨y25, hy25, h26⟩ := bi_ok h24
              refine go hΓ 3 rfl ?_
              refine eo_callP (callable Tryd.func50 rfl rfl) (c_kit_IsMoment hy25) rfl (Nat.le_of_ble_eq_true rfl) rfl rfl rfl rfl rfl ?_
              refine go_ops hΓ 4 rfl ?_
              refine j_cond rfl (fun hb => ?_) (fun hb => ?_)
              · have h27 := cT h26 hb
                refine go hΓ 10 rfl ?_
                obtain rfl := Option.some.inj h27
                exact fin_objs hΓ [] (.inr rfl) rfl rfl rfl rfl (.inl rfl)
              · have h28 := cF h26 hb
                obtain ⟨y29, hy29, h30⟩ := bi_ok h28
                refine go hΓ 8 rfl ?_
                refine eo_callP (callable Tryd.func43 rfl rfl) (Pure.rows (c_route_homes hy29) rfl rfl) rfl (Nat.le_of_ble_eq_true rfl) rfl rfl rfl rfl rfl ?_
                obtain ⟨y31, hy31, h32⟩ := bi_ok h30
                refine go_ops hΓ 1 rfl ?_
                refine eo_callP (callable Tryd.func42 rfl rfl) (c_route_whoAt hy31) rfl (Nat.le_of_ble_eq_true rfl) rfl rfl rfl rfl rfl ?_
                obtain ⟨y33, hy33, h34⟩ := bi_ok h32
                refine go_ops hΓ 3 rfl ?_
                refine eo_callP (callable Tryd.func43 rfl rfl) (Pure.rows (c_route_homes hy33) rfl rfl) rfl (Nat.le_of_ble_eq_true rfl) rfl rfl rfl rfl rfl ?_
                obtain ⟨y35, hy35, h36⟩ := bi_ok h34
                refine go_ops hΓ 1 rfl ?_
                refine eo_callP (callable Tryd.func42 rfl rfl) (c_route_whoAt hy35) rfl (Nat.le_of_ble_eq_true rfl) rfl rfl rfl rfl rfl ?_
                refine go_ops hΓ 10 rfl ?_
                refine o_cut 3 [(0, .d (Sl e_api_Probe l)), (1, .d (Sl e_api_Link links)), (3, S a), (4, S b), (5, I v_at), (18, S y31), (19, S y35), (72, B (((y31 : Str) == []) || ((y35 : Str) == [])))] [.bag al.1 (arX al.2) []] ?_ ?_
                · refine eo_gsplit rfl rfl (fun hb => ?_) (fun hb => ?_)
                  · refine go_ops hΓ 4 rfl ?_
                    exact ⟨⟨rfl, rfl, rfl, rfl, rfl, rfl, rfl, get_b rfl (or_t hb), trivial⟩, [], rfl, .inl rfl⟩
                  · refine go_ops hΓ 4 rfl ?_
                    exact ⟨⟨rfl, rfl, rfl, rfl, rfl, rfl, rfl, get_b rfl (or_f hb), trivial⟩, [], rfl, .inl rfl⟩
                · refine go_ops hΓ 2 rfl ?_
                  refine j_cond rfl (fun hb => ?_) (fun hb => ?_)
                  · have h37 := cT h36 hb
                    refine go hΓ 9 rfl ?_
                    obtain rfl := Option.some.inj h37
                    exact fin_objs hΓ [] (.inr rfl) rfl rfl rfl rfl (.inl rfl)
                  · have h38 := cF h36 hb
                    obtain ⟨y39, hy39, h40⟩ := bi_ok h38
                    refine go hΓ 7 rfl ?_
                    refine eo_callF [0] (.tup [.d (Sl eS y39.1), I y39.2.1, I y39.2.2.1]) [.bag y39.2.2.2.1 (arX y39.2.2.2.2) []] (callable Tryd.func56 rfl rfl) (c_route_through hy39) rfl (Nat.le_of_ble_eq_true rfl) rfl rfl rfl rfl rfl rfl rfl rfl rfl rfl ?_
                    refine go_ops hΓ 16 rfl ?_
                    refine j_cond rfl (fun hb => ?_) (fun hb => ?_)
                    · have h41 := cT h40 hb
                      refine go hΓ 10 rfl ?_
                      obtain rfl := Option.some.inj h41
                      exact fin_objs hΓ [] (.inr rfl) rfl rfl rfl rfl (.inl rfl)
                    · have h42 := cF h40 hb
                      obtain ⟨y43, hy43, h44⟩ := bi_ok h42
                      refine go hΓ 10 rfl ?_
                      refine eo_callP (callable Tryd.func61 rfl rfl) (c_route_told hy43) rfl (Nat.le_of_ble_eq_true rfl) rfl rfl rfl rfl rfl ?_
                      obtain ⟨y45, hy45, h46⟩ := bi_ok h44
                      refine eo_o rfl (op_quoZ hy45 rfl rfl) ?_
                      obtain ⟨y47, hy47, h48⟩ := bi_ok h46
                      refine go_ops hΓ 5 rfl ?_
                      refine eo_callP (callable Tryd.func61 rfl rfl) (c_route_told hy47) rfl (Nat.le_of_ble_eq_true rfl) rfl rfl rfl rfl rfl ?_
                      obtain ⟨y49, hy49, h50⟩ := bi_ok h48
                      refine eo_o rfl (op_quoZ hy49 rfl rfl) ?_
                      refine go_ops hΓ 7 rfl ?_
                      obtain rfl := Option.some.inj h50
                      exact fin_objs hΓ [] (.inr rfl) rfl rfl rfl rfl (.inl rfl)
theorem c_laneref2_Moment {v_at : Int} {r : Bool} (h : m_laneref2_Moment v_at = some r) : Pure Tryd.prog 44 [I v_at] (B r) := by
  refine Pure.enter (Fr.of 0 _) Tryd.func44 rfl (Fr.of_ok _) rfl rfl ?_
  refine go_in ?_
  unfold m_laneref2_Moment at h
  obtain ⟨y1, hy1, h2⟩ := bi_ok h
  refine go hΓ 8 rfl ?_
  refine eo_callP (callable Tryd.func72 rfl rfl) (c_laneref2_in hy1) rfl (Nat.le_of_ble_eq_true rfl) rfl rfl rfl rfl rfl ?_
  refine go_ops hΓ 4 rfl ?_
  obtain rfl := Option.some.inj h2
  exact fin_pure hΓ (.inr rfl) rfl rfl
set_option maxHeartbeats 8000000 in
theorem c_laneref1_ProbesFault {l : List T_api_Probe} {r : Int} (h : m_laneref1_ProbesFault l = some r) : Pure Tryd.prog 12 [.d (Sl e_api_Probe l)] (I r) := by
  refine Pure.enter (Fr.of 0 _) Tryd.func12 rfl (Fr.of_ok _) rfl rfl ?_
  refine go_in ?_
  unfold m_laneref1_ProbesFault at h
  refine go hΓ 13 rfl ?_
  refine j_cond rfl (fun hb => ?_) (fun hb => ?_)
  · have h1 := cT h hb
    refine go hΓ 7 rfl ?_
    obtain rfl := Option.some.inj h1
    exact fin_pure hΓ (.inr rfl) rfl rfl
  · have h2 := cF h hb
    refine go hΓ 10 rfl ?_
    obtain ⟨q6, hq6, h7⟩ := bi_ok h2
    refine j_bound 0 rfl fun hb9 => ?_
    refine j_cutEZ (R := fun a8 => q6 = .go a8) (fun a8 => []) (fun a8 => []) ?_ ?_
    · refine go hΓ 1 rfl ?_
      refine j_range l hq6 (fun i3 s4 => [(0, .d (Sl e_api_Probe l)), (8, .d (Sl e_api_Probe l)), (9, I (l.length : Int)), (10, I (i3 : Int))]) (fun s4 => []) ⟨⟨rfl, rfl, rfl, rfl, trivial⟩, [], rfl, .inl rfl⟩ (fun i3 x5 s4 y13 hx10 hlt hy11 hout12 => ?_) (fun s4 hgo => ?_)
      · refine go hΓ 6 rfl ?_
        refine j_condT rfl (decide_eq_true (Int.ofNat_lt.2 hlt)) ?_
        refine go hΓ 7 rfl ?_
        refine eo_o rfl (op_elemZ hΓ (enc := e_api_Probe) (getZ_nat hx10) rfl rfl rfl rfl rfl (fun _ => rfl)) ?_
        refine go_ops hΓ 1 rfl ?_
        refine eo_alloc hΓ rfl rfl rfl (Nat.le_of_ble_eq_true rfl) ?_
        refine go_ops hΓ 1 rfl ?_
        refine eo_store hΓ rfl rfl rfl rfl rfl rfl rfl rfl (Nat.le_of_ble_eq_true rfl) ?_
        refine eo_hp [.box 67 [I x5.At, S x5.Node, S x5.Relay, I x5.Millis]] rfl ?_
        obtain ⟨y14, hy14, h15⟩ := bi_ok hy11
        refine go_ops hΓ 7 rfl ?_
        refine eo_callP (callable Tryd.func44 rfl rfl) (c_laneref2_Moment hy14) rfl (Nat.le_of_ble_eq_true rfl) rfl rfl rfl rfl rfl ?_
        refine go_ops hΓ 4 rfl ?_
        refine j_cond rfl (fun hb => ?_) (fun hb => ?_)
        · have h16 := cT h15 hb
          refine go hΓ 9 rfl ?_
          obtain ⟨v17, hv17, h18⟩ := bi_ok h16
          obtain rfl := Option.some.inj h18
          obtain rfl := hout12 _ rfl
          obtain rfl := Option.some.inj h7
          refine go hΓ 4 rfl ?_
          obtain rfl := Option.some.inj hv17
          exact fin_pure hΓ (.inr rfl) rfl rfl
        · have h19 := cF h15 hb
          obtain ⟨y20, hy20, h21⟩ := bi_ok h19
          refine go hΓ 4 rfl ?_
          refine eo_callP (callable Tryd.func45 rfl rfl) (c_laneref2_Key hy20) rfl (Nat.le_of_ble_eq_true rfl) rfl rfl rfl rfl rfl ?_
          refine go_ops hΓ 2 rfl ?_
          obtain ⟨q22, hq22, h23⟩ := bi_ok h21
          refine o_cut 5 [(0, .d (Sl e_api_Probe l)), (3, I (i3 : Int)), (4, .ptr 0 0), (8, .d (Sl e_api_Probe l)), (9, I (l.length : Int)), (10, I (i3 : Int)), (30, B q22)] [.box 67 [I x5.At, S x5.Node, S x5.Relay, I x5.Millis]] ?_ ?_
          · refine eo_gsplit rfl rfl (fun hb => ?_) (fun hb => ?_)
            · have h24 := cT hq22 hb
              refine go_ops hΓ 6 rfl ?_
              obtain rfl := Option.some.inj h24
              exact ⟨⟨rfl, rfl, rfl, rfl, rfl, rfl, rfl, trivial⟩, [], rfl, .inl rfl⟩
            · have h25 := cF hq22 hb
              obtain ⟨y26, hy26, h27⟩ := bi_ok h25
              refine go_ops hΓ 2 rfl ?_
              refine eo_guard rfl ?_
              refine eo_callP (callable Tryd.func45 rfl rfl) (c_laneref2_Key hy26) rfl (Nat.le_of_ble_eq_true rfl) rfl rfl rfl rfl rfl ?_
              refine go_ops hΓ 3 rfl ?_
              obtain rfl := Option.some.inj h27
              exact ⟨⟨rfl, rfl, rfl, rfl, rfl, rfl, rfl, trivial⟩, [], rfl, .inl rfl⟩
          · refine go_ops hΓ 3 rfl ?_
            refine j_cond rfl (fun hb => ?_) (fun hb => ?_)
            · have h28 := cT h23 hb
              refine go hΓ 9 rfl ?_
              obtain ⟨v29, hv29, h30⟩ := bi_ok h28
              obtain rfl := Option.some.inj h30
              obtain rfl := hout12 _ rfl
              obtain rfl := Option.some.inj h7
              refine go hΓ 4 rfl ?_
              obtain rfl := Option.some.inj hv29
              exact fin_pure hΓ (.inr rfl) rfl rfl
            · have h31 := cF h23 hb
              obtain ⟨y32, hy32, h33⟩ := bi_ok h31
              refine go hΓ 4 rfl ?_
              refine eo_callP (callable Tryd.func46 rfl rfl) (c_laneref1_in hy32) rfl (Nat.le_of_ble_eq_true rfl) rfl rfl rfl rfl rfl ?_
              refine go_ops hΓ 4 rfl ?_
              refine j_cond rfl (fun hb => ?_) (fun hb => ?_)
              · have h34 := cT h33 hb
                refine go hΓ 9 rfl ?_
                obtain ⟨v35, hv35, h36⟩ := bi_ok h34
                obtain rfl := Option.some.inj h36
                obtain rfl := hout12 _ rfl
                obtain rfl := Option.some.inj h7
                refine go hΓ 4 rfl ?_
                obtain rfl := Option.some.inj hv35
                exact fin_pure hΓ (.inr rfl) rfl rfl
              · have h37 := cF h33 hb
                obtain ⟨q38, hq38, h39⟩ := bi_ok h37
                refine go hΓ 1 rfl ?_
                refine j_cutNZ [(0, .d (Sl e_api_Probe l)), (8, .d (Sl e_api_Probe l)), (9, I (l.length : Int)), (10, I (i3 : Int)), (36, B q38)] [.box 67 [I x5.At, S x5.Node, S x5.Relay, I x5.Millis]] ?_ ?_
                · refine j_drawE [.box 67 [I x5.At, S x5.Node, S x5.Relay, I x5.Millis]] [10, 19, 28] [] [] hmix (by kernel_rfl) (by kernel_rfl) ⟨rfl, trivial⟩ (Nat.le_of_ble_eq_true rfl) ?_
                  refine go_E hΓ 3 rfl ?_
                  refine ge_gsplit rfl rfl (fun hb => ?_) (fun hb => ?_)
                  · have h40 := cT hq38 hb
                    obtain ⟨x41, hx41, h42⟩ := bi_ok h40
                    refine go_E hΓ 3 rfl ?_
                    refine ge_q rfl (.inr ⟨_, _, rfl, rfl⟩) (fun _ _ => qte_of_qt (qt_p (op_elemZ hΓ (enc := e_api_Probe) hx41 rfl rfl rfl rfl rfl (fun _ => rfl)))) ?_
                    obtain ⟨y43, hy43, h44⟩ := bi_ok h42
                    refine go_E hΓ 4 rfl ?_
                    refine ge_callPg rfl (callable Tryd.func48 rfl rfl) (c_cmp_Compare_int hy43) rfl rfl rfl rfl rfl rfl ?_
                    obtain ⟨x45, hx45, h46⟩ := bi_ok h44
                    refine go_E hΓ 3 rfl ?_
                    refine ge_q rfl (.inr ⟨_, _, rfl, rfl⟩) (fun _ _ => qte_of_qt (qt_p (op_elemZ hΓ (enc := e_api_Probe) hx45 rfl rfl rfl rfl rfl (fun _ => rfl)))) ?_
                    obtain ⟨y47, hy47, h48⟩ := bi_ok h46
                    refine go_E hΓ 4 rfl ?_
                    refine ge_callPg rfl (callable Tryd.func49 rfl rfl) (c_strings_Compare hy47) rfl rfl rfl rfl rfl rfl ?_
                    obtain ⟨x49, hx49, h50⟩ := bi_ok h48
                    refine go_E hΓ 3 rfl ?_
                    refine ge_q rfl (.inr ⟨_, _, rfl, rfl⟩) (fun _ _ => qte_of_qt (qt_p (op_elemZ hΓ (enc := e_api_Probe) hx49 rfl rfl rfl rfl rfl (fun _ => rfl)))) ?_
                    obtain ⟨y51, hy51, h52⟩ := bi_ok h50
                    refine go_E hΓ 4 rfl ?_
                    refine ge_callPg rfl (callable Tryd.func49 rfl rfl) (c_strings_Compare hy51) rfl rfl rfl rfl rfl rfl ?_
                    refine ge_litTg hΓ (enc := (eN .i64)) [y43, y47, y51] rfl rfl rfl rfl rfl rfl rfl rfl rfl rfl rfl rfl rfl ?_
                    obtain ⟨y53, hy53, h54⟩ := bi_ok h52
                    refine ge_callPg rfl (callable Tryd.func47 rfl rfl) (c_cmp_Or_int hy53) rfl rfl rfl rfl rfl rfl ?_
                    refine go_E hΓ 3 rfl ?_
                    refine ge_fin ?_
                    obtain rfl := Option.some.inj h54
                    exact ⟨⟨rfl, rfl, rfl, rfl, rfl, trivial⟩, [], rfl, .inl rfl⟩
                  · have h55 := cF hq38 hb
                    refine go_E hΓ 32 rfl ?_
                    refine ge_fin ?_
                    obtain rfl := Option.some.inj h55
                    exact ⟨⟨rfl, rfl, rfl, rfl, rfl, trivial⟩, [], rfl, .inl rfl⟩
                · refine go hΓ 1 rfl ?_
                  refine j_cond rfl (fun hb => ?_) (fun hb => ?_)
                  · have h56 := cT h39 hb
                    refine go hΓ 9 rfl ?_
                    obtain ⟨v57, hv57, h58⟩ := bi_ok h56
                    obtain rfl := Option.some.inj h58
                    obtain rfl := hout12 _ rfl
                    obtain rfl := Option.some.inj h7
                    refine go hΓ 4 rfl ?_
                    obtain rfl := Option.some.inj hv57
                    exact fin_pure hΓ (.inr rfl) rfl rfl
                  · have h59 := cF h39 hb
                    refine go hΓ 8 rfl ?_
                    obtain rfl := Option.some.inj h59
                    exact ⟨_, rfl, ⟨⟨rfl, rfl, rfl, get_eq rfl (w64_succ (Nat.lt_of_lt_of_le hlt hb9)), trivial⟩, [_], rfl, .inr ⟨HB.mk rfl, FB.mk rfl, (Nat.le_of_ble_eq_true rfl)⟩⟩⟩
      · subst hgo
        refine go hΓ 6 rfl ?_
        refine j_condF rfl (decide_eq_false (Int.lt_irrefl _)) ?_
        refine go hΓ 4 rfl ?_
        exact ⟨_, rfl, ⟨trivial, [], rfl, .inl rfl⟩⟩
    · intro a8 ha
      subst ha
      replace h7 := goI_l h7
      refine go hΓ 7 rfl ?_
      obtain rfl := Option.some.inj h7
      exact fin_pure hΓ (.inr rfl) rfl rfl
theorem c_laneref1_GainFault {gain : Int} {r : Int} (h : m_laneref1_GainFault gain = some r) : Pure Tryd.prog 15 [I gain] (I r) := by
  refine Pure.enter (Fr.of 0 _) Tryd.func15 rfl (Fr.of_ok _) rfl rfl ?_
  refine go_in ?_
  unfold m_laneref1_GainFault at h
  obtain ⟨y1, hy1, h2⟩ := bi_ok h
  refine go hΓ 9 rfl ?_
  refine eo_callP (callable Tryd.func46 rfl rfl) (c_laneref1_in hy1) rfl (Nat.le_of_ble_eq_true rfl) rfl rfl rfl rfl rfl ?_
  refine go_ops hΓ 3 rfl ?_
  refine j_cond rfl (fun hb => ?_) (fun hb => ?_)
  · have h3 := cT h2 hb
    refine go hΓ 7 rfl ?_
    obtain rfl := Option.some.inj h3
    exact fin_pure hΓ (.inr rfl) rfl rfl
  · have h4 := cF h2 hb
    refine go hΓ 8 rfl ?_
    obtain rfl := Option.some.inj h4
    exact fin_pure hΓ (.inr rfl) rfl rfl
theorem c_laneref1_MomentFault {v_at : Int} {r : Int} (h : m_laneref1_MomentFault v_at = some r) : Pure Tryd.prog 17 [I v_at] (I r) := by
  refine Pure.enter (Fr.of 0 _) Tryd.func17 rfl (Fr.of_ok _) rfl rfl ?_
  refine go_in ?_
  unfold m_laneref1_MomentFault at h
  obtain ⟨y1, hy1, h2⟩ := bi_ok h
  refine go hΓ 9 rfl ?_
  refine eo_callP (callable Tryd.func44 rfl rfl) (c_laneref2_Moment hy1) rfl (Nat.le_of_ble_eq_true rfl) rfl rfl rfl rfl rfl ?_
  refine go_ops hΓ 3 rfl ?_
  refine j_cond rfl (fun hb => ?_) (fun hb => ?_)
  · have h3 := cT h2 hb
    refine go hΓ 7 rfl ?_
    obtain rfl := Option.some.inj h3
    exact fin_pure hΓ (.inr rfl) rfl rfl
  · have h4 := cF h2 hb
    refine go hΓ 8 rfl ?_
    obtain rfl := Option.some.inj h4
    exact fin_pure hΓ (.inr rfl) rfl rfl
theorem c_lanelaw1_routed {k : Nat} {al : BagT} {r : Bool × BagT} (h : m_lanelaw1_routed k al = some r) : EC Tryd.prog 22 [] [.bag al.1 (arX al.2) []] fun g hp' => g = B r.1 ∧ hp' = [.bag r.2.1 (arX r.2.2) []] := by
  refine ec_enter (Fr.of 0 _) Tryd.func22 rfl (Fr.of_ok _) (Nat.le_of_ble_eq_true rfl) fun _ => ?_
  refine go_in ?_
  unfold m_lanelaw1_routed at h
  refine go hΓ 7 rfl ?_
  refine eo_build hΓ (gs := [S [97], S [98], I 3]) rfl rfl rfl rfl rfl rfl rfl ?_
  refine eo_litT hΓ (enc := e_api_Link) [(⟨[97], [98], 3⟩ : T_api_Link)] rfl rfl rfl rfl rfl rfl rfl rfl rfl rfl rfl rfl (Nat.le_of_ble_eq_true rfl) ?_
  obtain ⟨y1, hy1, h2⟩ := bi_ok h
  refine eo_callF [0] (.tup [.d (Sl eS y1.1), I y1.2.1, I y1.2.2.1]) [.bag y1.2.2.2.1 (arX y1.2.2.2.2) []] (callable Tryd.func24 rfl rfl) (c_route_Through hy1) rfl (Nat.le_of_ble_eq_true rfl) rfl rfl rfl rfl rfl rfl rfl rfl rfl rfl ?_
  refine go_ops hΓ 14 rfl ?_
  refine o_cut 3 [(0, B false), (1, .d (Sl eS y1.1)), (16, B (((y1.2.2.1 : Int) == 0) && ((y1.2.1 : Int) == 3)))] [.bag y1.2.2.2.1 (arX y1.2.2.2.2) []] ?_ ?_
  · refine eo_gsplit rfl rfl (fun hb => ?_) (fun hb => ?_)
    · refine go_ops hΓ 4 rfl ?_
      exact ⟨⟨rfl, rfl, get_b rfl (and_t hb), trivial⟩, [], rfl, .inl rfl⟩
    · refine go_ops hΓ 4 rfl ?_
      exact ⟨⟨rfl, rfl, get_b rfl (and_f hb), trivial⟩, [], rfl, .inl rfl⟩
  · refine go_ops hΓ 1 rfl ?_
    obtain ⟨q3, hq3, h4⟩ := bi_ok h2
    refine o_cut 4 [(0, B false), (21, B q3)] [.bag y1.2.2.2.1 (arX y1.2.2.2.2) []] ?_ ?_
    · refine eo_gsplit rfl rfl (fun hb => ?_) (fun hb => ?_)
      · have h5 := cT hq3 hb
        refine go_ops hΓ 1 rfl ?_
        refine eo_guard rfl ?_
        refine eo_litT hΓ (enc := eS) [[98], [97]] rfl rfl rfl rfl rfl rfl rfl rfl rfl rfl rfl rfl (Nat.le_of_ble_eq_true rfl) ?_
        obtain ⟨y6, hy6, h7⟩ := bi_ok h5
        refine eo_guard rfl ?_
        refine eo_callP (callable Tryd.func28 rfl rfl) (c_slices_Equal_string_string hy6) rfl (Nat.le_of_ble_eq_true rfl) rfl rfl rfl rfl rfl ?_
        refine go_ops hΓ 2 rfl ?_
        obtain rfl := Option.some.inj h7
        exact ⟨⟨rfl, rfl, trivial⟩, [], rfl, .inl rfl⟩
      · have h8 := cF hq3 hb
        refine go_ops hΓ 5 rfl ?_
        obtain rfl := Option.some.inj h8
        exact ⟨⟨rfl, rfl, trivial⟩, [], rfl, .inl rfl⟩
    · refine go_ops hΓ 4 rfl ?_
      obtain rfl := Option.some.inj h4
      exact fin_objs hΓ [] (.inr rfl) rfl rfl rfl rfl (.inl rfl)
set_option maxHeartbeats 8000000 in
theorem c_laneref1_addTurn {l : List T_api_Turn} {who : Str} {v_from : Int} {to : Int} {r : List T_api_Turn} (h : m_laneref1_addTurn l who v_from to = some r) : EC Tryd.prog 55 [.sl 0 l.length, S who, I v_from, I to] [.row 45 3 l.length (l.flatMap e_api_Turn)] fun g hp' => g = .sl 1 r.length ∧ hp' = [.dead, .row 45 3 r.length (r.flatMap e_api_Turn)] := by
  refine ec_enter (Fr.of 0 _) Tryd.func55 rfl (Fr.of_ok _) (Nat.le_of_ble_eq_true rfl) fun _ => ?_
  refine go_in ?_
  unfold m_laneref1_addTurn at h
  refine go hΓ 2 rfl ?_
  refine eo_nilOwn (t := 0) 45 3 rfl (Nat.le_of_ble_eq_true rfl) ?_
  refine go_ops hΓ 8 rfl ?_
  refine o_cut 4 [(0, .sl 0 l.length), (1, S who), (2, I v_from), (3, I to), (16, B (((who : Str) == []) || (decide ((v_from : Int) ≥ to))))] [.row 45 3 l.length (l.flatMap e_api_Turn), .row 45 3 ([] : List T_api_Turn).length (([] : List T_api_Turn).flatMap e_api_Turn)] ?_ ?_
  · refine eo_gsplit rfl rfl (fun hb => ?_) (fun hb => ?_)
    · refine go_ops hΓ 5 rfl ?_
      exact ⟨⟨rfl, rfl, rfl, rfl, get_b rfl (or_t hb), trivial⟩, [], rfl, .inl rfl⟩
    · refine go_ops hΓ 5 rfl ?_
      exact ⟨⟨rfl, rfl, rfl, rfl, get_b rfl (or_f hb), trivial⟩, [], rfl, .inl rfl⟩
  · refine go_ops hΓ 2 rfl ?_
    refine j_cond rfl (fun hb => ?_) (fun hb => ?_)
    · have h1 := cT h hb
      refine go hΓ 4 rfl ?_
      refine eo_shr 1 [] _ [.row 45 3 l.length (l.flatMap e_api_Turn), .dead] rfl rfl rfl (Nat.le_of_ble_eq_true rfl) ?_
      refine eo_move 0 1 [.dead, .row 45 3 l.length (l.flatMap e_api_Turn)] rfl rfl rfl rfl rfl rfl ?_
      refine go_ops hΓ 4 rfl ?_
      obtain rfl := Option.some.inj h1
      exact fin_objs hΓ [] (.inr rfl) rfl rfl rfl rfl (.inl rfl)
    · have h2 := cF h hb
      refine go hΓ 15 rfl ?_
      obtain ⟨q3, hq3, h4⟩ := bi_ok h2
      refine o_cut 9 [(0, .sl 0 l.length), (1, S who), (2, I v_from), (3, I to), (9, I (l.length : Int)), (31, B q3)] [.row 45 3 l.length (l.flatMap e_api_Turn), .row 45 3 ([] : List T_api_Turn).length (([] : List T_api_Turn).flatMap e_api_Turn)] ?_ ?_
      · refine eo_gsplit rfl rfl (fun hb => ?_) (fun hb => ?_)
        · have h5 := cT hq3 hb
          obtain ⟨x6, hx6, h7⟩ := bi_ok h5
          have hj8 := getZ_at hx6
          refine go_ops hΓ 3 rfl ?_
          refine eo_guard rfl ?_
          refine eo_o rfl (op_elemRowZ hΓ hx6 rfl rfl rfl rfl rfl rfl) ?_
          refine go_ops hΓ 1 rfl ?_
          refine eo_guard rfl ?_
          refine eo_o rfl (op_loadRowZ hΓ (enc := e_api_Turn) ((wi ((l.length : Int) - 1)).toNat) 0 hj8 rfl rfl rfl rfl (fun _ => rfl) (g := S x6.Who) rfl) ?_
          refine go_ops hΓ 4 rfl ?_
          obtain rfl := Option.some.inj h7
          exact ⟨⟨rfl, rfl, rfl, rfl, rfl, rfl, trivial⟩, [], rfl, .inl rfl⟩
        · have h9 := cF hq3 hb
          refine go_ops hΓ 10 rfl ?_
          obtain rfl := Option.some.inj h9
          exact ⟨⟨rfl, rfl, rfl, rfl, rfl, rfl, trivial⟩, [], rfl, .inl rfl⟩
      · refine go_ops hΓ 1 rfl ?_
        obtain ⟨q10, hq10, h11⟩ := bi_ok h4
        refine o_cut 9 [(0, .sl 0 l.length), (1, S who), (2, I v_from), (3, I to), (9, I (l.length : Int)), (41, B q10)] [.row 45 3 l.length (l.flatMap e_api_Turn), .row 45 3 ([] : List T_api_Turn).length (([] : List T_api_Turn).flatMap e_api_Turn)] ?_ ?_
        · refine eo_gsplit rfl rfl (fun hb => ?_) (fun hb => ?_)
          · have h12 := cT hq10 hb
            obtain ⟨x13, hx13, h14⟩ := bi_ok h12
            have hj15 := getZ_at hx13
            refine go_ops hΓ 3 rfl ?_
            refine eo_guard rfl ?_
            refine eo_o rfl (op_elemRowZ hΓ hx13 rfl rfl rfl rfl rfl rfl) ?_
            refine go_ops hΓ 1 rfl ?_
            refine eo_guard rfl ?_
            refine eo_o rfl (op_loadRowZ hΓ (enc := e_api_Turn) ((wi ((l.length : Int) - 1)).toNat) 2 hj15 rfl rfl rfl rfl (fun _ => rfl) (g := I x13.To) rfl) ?_
            refine go_ops hΓ 4 rfl ?_
            obtain rfl := Option.some.inj h14
            exact ⟨⟨rfl, rfl, rfl, rfl, rfl, rfl, trivial⟩, [], rfl, .inl rfl⟩
          · have h16 := cF hq10 hb
            refine go_ops hΓ 10 rfl ?_
            obtain rfl := Option.some.inj h16
            exact ⟨⟨rfl, rfl, rfl, rfl, rfl, rfl, trivial⟩, [], rfl, .inl rfl⟩
        · refine go_ops hΓ 2 rfl ?_
          refine j_cond rfl (fun hb => ?_) (fun hb => ?_)
          · have h17 := cT h11 hb
            obtain ⟨x18, hx18, h19⟩ := bi_ok h17
            have hj20 := getZ_at hx18
            refine go hΓ 6 rfl ?_
            refine eo_o rfl (op_elemRowZ hΓ hx18 rfl rfl rfl rfl rfl rfl) ?_
            refine go_ops hΓ 1 rfl ?_
            refine eo_storeRowZ hΓ (enc := e_api_Turn) (z' := (⟨x18.Who, x18.From, to⟩ : T_api_Turn)) ((wi ((l.length : Int) - 1)).toNat) 2 hj20 rfl rfl rfl rfl (fun _ => rfl) rfl rfl rfl rfl rfl rfl (Nat.le_of_ble_eq_true rfl) ?_
            refine eo_hp [.row 45 3 (l.set ((wi ((l.length : Int) - 1)).toNat) (⟨x18.Who, x18.From, to⟩ : T_api_Turn)).length ((l.set ((wi ((l.length : Int) - 1)).toNat) (⟨x18.Who, x18.From, to⟩ : T_api_Turn)).flatMap e_api_Turn), .row 45 3 ([] : List T_api_Turn).length (([] : List T_api_Turn).flatMap e_api_Turn)] rfl ?_
            refine eo_relen 0 (n' := (l.set ((wi ((l.length : Int) - 1)).toNat) (⟨x18.Who, x18.From, to⟩ : T_api_Turn)).length) rfl List.length_set.symm ?_
            refine go_ops hΓ 6 rfl ?_
            refine eo_shr 1 [] _ [.row 45 3 (l.set ((wi ((l.length : Int) - 1)).toNat) (⟨x18.Who, x18.From, to⟩ : T_api_Turn)).length ((l.set ((wi ((l.length : Int) - 1)).toNat) (⟨x18.Who, x18.From, to⟩ : T_api_Turn)).flatMap e_api_Turn), .dead] rfl rfl rfl (Nat.le_of_ble_eq_true rfl) ?_
            refine eo_move 0 1 [.dead, .row 45 3 (l.set ((wi ((l.length : Int) - 1)).toNat) (⟨x18.Who, x18.From, to⟩ : T_api_Turn)).length ((l.set ((wi ((l.length : Int) - 1)).toNat) (⟨x18.Who, x18.From, to⟩ : T_api_Turn)).flatMap e_api_Turn)] rfl rfl rfl rfl rfl rfl ?_
            refine go_ops hΓ 4 rfl ?_
            obtain rfl := Option.some.inj h19
            exact fin_objs hΓ [] (.inr rfl) rfl rfl rfl rfl (.inl rfl)
          · have h21 := cF h11 hb
            refine go hΓ 8 rfl ?_
            refine eo_build hΓ (gs := [S who, I v_from, I to]) rfl rfl rfl rfl rfl rfl rfl ?_
            refine eo_litT hΓ (enc := e_api_Turn) [(⟨who, v_from, to⟩ : T_api_Turn)] rfl rfl rfl rfl rfl rfl rfl rfl rfl rfl rfl rfl (Nat.le_of_ble_eq_true rfl) ?_
            obtain ⟨y22, hy22, h23⟩ := bi_ok h21
            refine eo_s (Nat.le_of_ble_eq_true rfl) (nblt.1 rfl) (ops_appendT hΓ (enc := e_api_Turn) (id := 0) (h2 := show Γ 45 = some ⟨_, 3, _, _⟩ from rfl) hy22 rfl rfl rfl rfl rfl rfl rfl rfl (fun _ => rfl) rfl) ?_
            refine go_ops hΓ 1 rfl ?_
            refine eo_shr 1 [] _ [.dead, .dead, .row 45 3 y22.length (y22.flatMap e_api_Turn)] rfl rfl rfl (Nat.le_of_ble_eq_true rfl) ?_
            refine eo_move 2 1 [.dead, .row 45 3 y22.length (y22.flatMap e_api_Turn), .dead] rfl rfl rfl rfl rfl rfl ?_
            refine go_ops hΓ 3 rfl ?_
            obtain rfl := Option.some.inj h23
            exact fin_objs hΓ [_] (.inr rfl) rfl rfl rfl rfl (.inr ⟨HB.mk rfl, rfl⟩)
end Go.Proofs.YtnjnmkpgedkffaaDoor
